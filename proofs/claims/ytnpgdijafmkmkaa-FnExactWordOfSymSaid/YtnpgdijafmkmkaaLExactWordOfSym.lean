/- The law FnExactWordOfSym: for all kinds and symmetries the program's WordOfSym returns what the reference's returns, in new memory. No condition. -/
import Derived.Test.YtnpgdijafmkmkaaWofS
import Derived.Test.YtnpgdijafmkmkaaMarkI
import Derived.Test.YtnpgdijafmkmkaaFrame
import Derived.Test.YtnpgdijafmkmkaaSym
namespace Go.Proofs.Ytnpgdijafmkmkaa
open Go.RowKit

theorem lowsS_len {kind : Int} : ∀ (d : Nat) {u : List Int}, u ∈ lowsS kind d → u.length < d
  | 0, u, h => by simp [lowsS] at h
  | d + 1, u, h => by
    rcases List.mem_append.1 (show u ∈ lowsS kind d ++ levS kind d from h) with h | h
    · have := lowsS_len d h; omega
    · have := levS_len d h; omega

theorem ansS_len (kind t : Int) (f : Bool) : ((ansS kind t f).getD []).length ≤ 8 := by
  unfold ansS
  cases h : (lowsS kind 5).find? (mtS kind t f) with
  | none => exact Nat.zero_le _
  | some u =>
    have := lowsS_len 5 (List.mem_of_find?_eq_some h)
    show u.length ≤ 8
    omega

set_option maxRecDepth 100000 in
set_option maxHeartbeats 2000000 in
theorem FnExactWordOfSym_walk (kind t : Int) (f : Bool) (w : World) (_ : (Lit.int .i64 kind).wf = true) (_ : (Lit.int .i64 t).wf = true) :
    Calls Try.prog 14 #[.int .i64 kind, .agg #[.int .i64 t, .bool f]] w fun e w' => e = .returned (.bool true) ∧ Below w.heap.size w w' := by
  have hS := sWordOfSym_any kind t f
  have hI := wordOfSym_any kind t f
  rw [← ans_same] at hI
  have hl := ansS_len kind t f
  generalize ansS kind t f = o at hS hI hl
  unfold RetWof at hS hI
  generalize o.isSome = ob at hS hI
  generalize o.getD [] = l at hS hI hl
  have HS := hide hS
  have HI := hide hI
  clear hS hI
  have g0 : (w.alloc (.cells #[.int .i64 t, .bool f] 24)).cell? ⟨w.heap.size, 0, none⟩ = some (.int .i64 t) := by go_simp
  have g1 : (w.alloc (.cells #[.int .i64 t, .bool f] 24)).cell? ⟨w.heap.size, 1, none⟩ = some (.bool f) := by go_simp
  have bel : Below w.heap.size w (w.alloc (.cells #[.int .i64 t, .bool f] 24)) := (Below.refl _ _).alloc (Nat.le_refl _) _
  go_enter Try.func14, Try.ntmps14
  go_upto_region 1 with fail
  generalize w.alloc (.cells #[.int .i64 t, .bool f] 24) = w2 at g0 g1 bel ⊢
  go_wp2_with fail
  refine (toSym_any _ _ _).mono ?_
  rintro e w3 ⟨rfl, h3⟩
  have nb : Below w2.heap.size w2 w3 := by rw [← h3]; exact (by repeat (first | exact Below.refl _ _ | assumption | refine Below.drew ?_ | refine Below.alloc ?_ (by first | omega | (simp; omega) | simp) _))
  have bel := belowOf bel nb
  have g0 := keepc nb g0
  have g1 := keepc nb g1
  clear nb h3
  go_wp2_with fail
  refine (HS.out _).mono ?_
  rintro e w4 ⟨v0, rfl, own0, hb4⟩
  obtain ⟨a0, cap0, rfl, r0⟩ := readsI_of_own own0
  have lt0 : ∀ x, a0 = some x → x.block < w4.heap.size := fun x hx => (own0.lt x.block (by rw [hx]; rfl)).2
  have R0 := hide r0
  have bel := belowOf bel hb4
  have g0 := keepc hb4 g0
  have g1 := keepc hb4 g1
  clear hb4 own0 r0
  go_wp2_with fail
  refine (toSym_any _ _ _).mono ?_
  rintro e w5 ⟨rfl, h5⟩
  have nb : Below w4.heap.size w4 w5 := by rw [← h5]; exact (by repeat (first | exact Below.refl _ _ | assumption | refine Below.drew ?_ | refine Below.alloc ?_ (by first | omega | (simp; omega) | simp) _))
  have bel := belowOf bel nb
  have g0 := keepc nb g0
  have g1 := keepc nb g1
  have R0 := hide (R0.out.below nb)
  have lt5 : ∀ x, a0 = some x → x.block < w5.heap.size := fun x hx => Nat.lt_of_lt_of_le (lt0 x hx) nb.size
  clear nb h5 lt0
  go_wp2_with fail
  refine (HI.out _).mono ?_
  rintro e w6 ⟨v1, rfl, own1, hb6⟩
  have bel5 := bel.size
  have lt5w := World.block_lt_of_cell? w5 _ g0
  have bel := belowOf bel hb6
  have g0 := keepc hb6 g0
  have g1 := keepc hb6 g1
  have R0 := hide (R0.out.below hb6)
  clear hb6
  rcases own1.2 with ⟨rfl, h0⟩ | ⟨g, cap, cur, rfl, hg, hgx, hn, hm, hcs, _⟩
  · have hl0 : l = [] := List.eq_nil_of_length_eq_zero h0
    subst hl0
    have R1 : Hid (ReadsI w6 none 0 0 []) := ⟨rfl, by unfold maxLen; omega, .inl rfl⟩
    have R0 : Hid (ReadsI w6 a0 0 cap0 []) := R0
    clear own1 hl lt5 h0
    go_wp2_with fail
    refine (eqI_any _ _ _ _ _ [] _ R1.out R0.out).mono ?_
    rintro e w7 ⟨rfl, hb7⟩
    have bel := belowOf bel hb7
    have g0 := keepc hb7 g0
    have g1 := keepc hb7 g1
    have R0 := hide (R0.out.below hb7)
    clear hb7 R1
    go_wp2_with fail
    refine (markI_nil _ _ _).mono ?_
    rintro e w8 ⟨rfl, rfl⟩
    go_wp2_with fail
    refine (heldI_nil _ _ _).mono ?_
    rintro e w8 ⟨rfl, rfl⟩
    go_wp2_with fail
    refine (toSym_any _ _ _).mono ?_
    rintro e w9 ⟨rfl, hw9⟩
    have nb : Below w7.heap.size w7 w9 := by rw [← hw9]; exact (by repeat (first | exact Below.refl _ _ | assumption | refine Below.drew ?_ | refine Below.alloc ?_ (by first | omega | (simp; omega) | simp) _))
    have bel := belowOf bel nb
    have g0 := keepc nb g0
    have g1 := keepc nb g1
    have R0 := hide (R0.out.below nb)
    clear nb hw9
    go_wp2_with fail
    refine (HI.out _).mono ?_
    rintro e w10 ⟨v2, rfl, own2, hb10⟩
    obtain ⟨a2, cap2, rfl, r2⟩ := readsI_of_own own2
    have bel := belowOf bel hb10
    have R2 : Hid (ReadsI w10 a2 0 cap2 []) := r2
    have R0 := hide (R0.out.below hb10)
    clear own2 r2 hb10 g0 g1
    go_wp2_with fail
    refine (eqI_any _ _ _ _ _ [] _ R2.out R0.out).mono ?_
    rintro e w11 ⟨rfl, hb11⟩
    have bel := belowOf bel hb11
    clear hb11
    go_wp2_with fail
    refine (heldI_nil _ _ _).mono ?_
    rintro e w12 ⟨rfl, rfl⟩
    go_wp2_with fail
    go_ret
    exact ⟨rfl, bel⟩
  · have hc : ∀ j, j < l.length → w6.cell? ⟨g, j, none⟩ = some (.int .i64 (l.getD j 0)) := fun j hj => (own1.cellAt j (by omega)).trans (by simp [List.getD, List.getElem?_eq_getElem hj])
    have hf := own1.frozenAt
    have R1 : Hid (ReadsI w6 (some ⟨g, 0, none⟩) l.length cap l) := ⟨rfl, by unfold maxLen; omega, .inr ⟨g, 0, rfl, hn, hm, fun j hj => by rw [Nat.zero_add]; exact hc j hj⟩⟩
    have hg6 : g < w6.heap.size := (own1.lt g rfl).2
    have hne : ∀ x, a0 = some x → x.block ≠ g := fun x hx => by have := lt5 x hx; omega
    have hgw : w.heap.size ≤ g := by omega
    have hgne : w.heap.size ≠ g := by simp at lt5w; omega
    clear hgx hcs own1 lt5
    generalize hN : l.length = n at *
    have HN := hide hN
    have HC := hide hc
    have HF := hide hf
    have HNE := hide hne
    clear hN hc hf hne
    go_wp2_with fail
    refine (eqI_any _ _ _ _ _ l _ R1.out R0.out).mono ?_
    rintro e w7 ⟨rfl, hb7⟩
    have R0 := hide (R0.out.below hb7)
    have bel := belowOf bel hb7
    have g0 := keepc hb7 g0
    have g1 := keepc hb7 g1
    clear R1
    go_wp2_with fail
    refine (markI_some g n cap _ hl hn (fun j hj => ⟨_, keepc hb7 (HC.out j hj)⟩) (fun j _ => (hb7.frozen (p := ⟨g, j, none⟩) hg6).trans (HF.out j))).mono ?_
    rintro e w8 ⟨rfl, hm8⟩
    have bel := hm8.belowAt bel hgw
    have R0 := hide (R0.out.markedI hm8 HNE.out)
    have g0 : w8.cell? ⟨w.heap.size, 0, none⟩ = some (.int .i64 t) := (World.cell?_of_block (hm8.grow.block w.heap.size (World.block_lt_of_cell? w7 _ g0) (by simpa using hgne))).trans g0
    have g1 : w8.cell? ⟨w.heap.size, 1, none⟩ = some (.bool f) := (World.cell?_of_block (hm8.grow.block w.heap.size (World.block_lt_of_cell? w7 _ g1) (by simpa using hgne))).trans g1
    have HM := hide hm8.new
    have q0 : (0 : Int) ≤ 1 + (n : Int) := by omega
    clear hb7 hm8
    go_wp2_with fail
    refine (heldI_some g n cap _ hl hn HM.out).mono ?_
    rintro e w8 ⟨rfl, rfl⟩
    go_wp2_with fail
    refine (toSym_any _ _ _).mono ?_
    rintro e w9 ⟨rfl, hw9⟩
    have nb : Below w8.heap.size w8 w9 := by rw [← hw9]; exact (by repeat (first | exact Below.refl _ _ | assumption | refine Below.drew ?_ | refine Below.alloc ?_ (by first | omega | (simp; omega) | simp) _))
    have bel := belowOf bel nb
    have g0 := keepc nb g0
    have g1 := keepc nb g1
    have R0 := hide (R0.out.below nb)
    have HM := hide fun j hj => keepc nb (HM.out j hj)
    clear nb hw9
    go_wp2_with fail
    refine (HI.out _).mono ?_
    rintro e w10 ⟨v2, rfl, own2, hb10⟩
    obtain ⟨a2, cap2, rfl, r2⟩ := readsI_of_own own2
    rw [HN.out] at r2
    rw [HN.out]
    have bel := belowOf bel hb10
    have R2 := hide r2
    have R0 := hide (R0.out.below hb10)
    have HM := hide fun j hj => keepc hb10 (HM.out j hj)
    clear own2 r2 hb10 g0 g1
    go_wp2_with fail
    refine (eqI_any _ _ _ _ _ l _ R2.out R0.out).mono ?_
    rintro e w11 ⟨rfl, hb11⟩
    have bel := belowOf bel hb11
    have HM := hide fun j hj => keepc hb11 (HM.out j hj)
    clear hb11
    go_wp2_with fail
    refine (heldI_some g n cap _ hl hn HM.out).mono ?_
    rintro e w12 ⟨rfl, rfl⟩
    go_wp2_with fail
    go_ret
    exact ⟨rfl, bel⟩

open Go.ChangeShapes Go.WideShapes Go.ChangeAt Go.Joins
open Go.ChangeMaps (open_string shut_string)

set_option maxRecDepth 100000 in
theorem fnExactWordOfSym_lifted (os : Os) (started : os.Started) (H : Type) (enc : TypeId × Value → H) :
    ReturnsInHanded {} Try.checked os 14 .any (Rows.fnExactWordOfSymSpec.pre6 enc Try.prog Try.f14 Rows.fnExactWordOfSymRow.domain false) (Rows.fnExactWordOfSymSpec.post enc Try.prog Try.f14 false true false false) := by
  refine returnsInHanded_of_change (C := Try.checked) Try.own started (by kernel_rfl) Try.func14
    (ChangeSpec.witness6 (enc := enc) (C := Try.checked) false ⟨#[], #[.int .i64 0, .agg #[.int .i64 0, .bool false]], []⟩ 8 (by kernel_rfl) (by kernel_rfl) (by kernel_rfl) (by kernel_rfl)) ?_
  intro W base args ds gs before hval0 hW _ _
  have hval : ∀ (j : Nat) t v, Try.f14.params[j]? = some t → args[j]? = some v → Value.okWide Try.prog W .any base t v := hval0
  have hW' := hW
  obtain ⟨p, q, hA0, hV, rfl, _, _⟩ := hW
  have hA : DataW.TrodAll enc Try.prog W 0 (fun _ => true) true Try.f14.params.toList args.toList ds p := hA0
  rw [Try.params14] at hA hval
  obtain ⟨v0, vs0, d0, ds0, p0, q0, hargs, rfl, rfl, h0, r0⟩ := trodAll_cons hA
  obtain ⟨v1, vs1, d1, ds1, p1, q1, rfl, rfl, rfl, h1, r1⟩ := trodAll_cons r0
  obtain ⟨rfl, rfl, rfl⟩ := trodAll_nil r1
  obtain rfl : args = #[v0, v1] := by cases args; simp_all
  obtain ⟨rfl, rfl⟩ := trodVars_none hV
  have k0 := h0
  have lt0 : ∀ x ∈ p0, x.block < W.heap.size := by obtain ⟨m, hm⟩ := k0; exact DataW.trod_lt m _ _ _ hm
  have k1 := h1
  have lt1 : ∀ x ∈ p1, x.block < W.heap.size := by obtain ⟨m, hm⟩ := k1; exact DataW.trod_lt m _ _ _ hm
  obtain ⟨n0, rfl, _, _, w0⟩ := open_int Try.underlying3 (hval 0 3 v0 rfl rfl) h0
  obtain ⟨c10, c11, y10, y11, m1, rfl, _, _, hy10, hy11⟩ := open_agg2 Try.underlying24 (by kernel_rfl) (show Try.prog.cellsOf 24 = 2 by kernel_rfl) (hval 1 24 v1 rfl rfl) h1
  obtain ⟨t1, e10, _, w1⟩ := DataW.trod_int Try.underlying3 hy10
  obtain ⟨f1, e11, _⟩ := DataW.trod_bool Try.underlying4 hy11
  simp at e10 e11
  subst e10 e11
  clear hA0 hval0
  refine (FnExactWordOfSym_walk n0 t1 f1 W w0 w1).mono fun e W' ⟨he, bel⟩ => ?_
  subst he
  exact ⟨_, rfl, _, _, _, [], _, [], hW', trodAll_mk1 (shut_bool Try.underlying4 _), (trodAll_cons_mk (Below.trod Try.laidOut (by kernel_rfl) (of_decide_eq_true (by kernel_rfl)) k0 bel lt0) (trodAll_cons_mk (Below.trod Try.laidOut (by kernel_rfl) (of_decide_eq_true (by kernel_rfl)) k1 bel lt1) trodAll_mk0)), rfl, bel.frame _, fun h => by cases h⟩

/-- The statement. -/
theorem fnExactWordOfSym_proved : Rows.FnExactWordOfSymSaid :=
  OpenClaim.holds_of_wide 14 Try.f14 rfl rfl rfl rfl rfl rfl rfl ⟨rfl, rfl, rfl, rfl, rfl⟩ rfl rfl rfl rfl rfl (by kernel_rfl) Try.func14 (by kernel_rfl)
    (of_decide_eq_true (by kernel_rfl)) (by unfold Func.isWrapper; rw [if_neg (of_decide_eq_false (by kernel_rfl))]; exact ⟨rfl, rfl⟩)
    (fun os started H enc _ => fnExactWordOfSym_lifted os started H enc)
#print axioms fnExactWordOfSym_proved

end Go.Proofs.Ytnpgdijafmkmkaa
