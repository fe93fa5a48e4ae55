/- The law FnExactSymsOf: for every kind the program's SymsOf returns what the reference's returns, in new memory. No condition. -/
import Derived.Test.YtnpgdijafmkmkaaOf
import Derived.Test.YtnpgdijafmkmkaaOfI
import Derived.Test.YtnpgdijafmkmkaaEqS
import Derived.Test.YtnpgdijafmkmkaaFrame
namespace Go.Proofs.Ytnpgdijafmkmkaa
open Go.RowKit

/-- A slice that is not the marked one reads as before. -/
theorem ReadsS.marked {w W : World} {g m c : Nat} {a : Option Addr} {n cap : Nat} {l : List (Int × Bool)} (h : ReadsS w a n cap l) (hm : Marked w g m c W) (hne : ∀ x, a = some x → x.block ≠ g) : ReadsS W a n cap l := by
  obtain ⟨h1, h2⟩ := h
  refine ⟨h1, ?_⟩
  rcases h2 with h2 | ⟨b, rfl, hn, hcap, hc⟩
  · exact .inl h2
  · refine .inr ⟨b, rfl, hn, hcap, fun j hj => ?_⟩
    have e := hc j hj
    have hl : j < (symCells l).length := by rw [symCells_length]; omega
    rw [List.getElem?_eq_getElem hl] at e ⊢
    have hb := World.block_lt_of_cell? w _ e
    rw [← e]
    exact World.cell?_of_block (hm.grow.block b hb (by have := hne _ rfl; simpa using this))

theorem Marked.below {w W : World} {g n c : Nat} (h : Marked w g n c W) (hg : ∀ k, k < w.heap.size → k ≠ g) {B : Nat} (hB : B ≤ w.heap.size) : Below B w W :=
  ⟨h.grow.os, h.grow.tape, h.grow.output, h.grow.size, fun k hk => h.grow.block k (by omega) (by have := hg k (by omega); simpa using this)⟩

theorem Marked.belowAt {w0 w W : World} {g n c : Nat} (h : Marked w g n c W) (hb : Below w0.heap.size w0 w) (hg : w0.heap.size ≤ g) : Below w0.heap.size w0 W :=
  hb.trans ⟨h.grow.os, h.grow.tape, h.grow.output, h.grow.size, fun k hk => h.grow.block k (by have := hb.size; omega) (by simp; omega)⟩

set_option maxHeartbeats 1000000 in
theorem FnExactSymsOf_walk (kind : Int) (w : World) (_ : (Lit.int .i64 kind).wf = true) :
    Calls Try.prog 9 #[.int .i64 kind] w fun e w' => e = .returned (.bool true) ∧ Below w.heap.size w w' := by
  have hS := sSymsOf_any kind
  have hI := symsOf_any kind
  have hl := symsOf_le kind
  generalize symsOf kind = l at hS hI hl
  have HS := hide hS
  have HI := hide hI
  clear hS hI
  go_enter Try.func9, Try.ntmps9
  go_wp2_with fail
  refine (HS.out _).mono ?_
  rintro e w1 ⟨v0, rfl, own0, hb1⟩
  go_wp2_with fail
  refine (HI.out _).mono ?_
  rintro e w2 ⟨v1, rfl, own1, hb2⟩
  have hb2' := hb1.trans (hb2.mono hb1.size)
  obtain ⟨a0, cap0, rfl, r0⟩ := readsS_of_own own0
  have lt0 : ∀ x, a0 = some x → x.block < w1.heap.size := fun x hx => (own0.lt x.block (by rw [hx]; rfl)).2
  have R0 := hide (r0.below hb2)
  rcases own1.2 with ⟨rfl, h0⟩ | ⟨g, cap, cur, rfl, hg, hgx, hn, hm, hcs, _⟩
  · have R1 : Hid (ReadsS w2 none 0 0 l) := ⟨h0, .inl rfl⟩
    have hl0 : l = [] := List.eq_nil_of_length_eq_zero h0
    subst hl0
    clear own1 own0 hl lt0 h0 r0
    go_wp2_with fail
    refine (eqS_any _ _ _ _ _ [] _ R1.out R0.out).mono ?_
    rintro e w3 ⟨rfl, hb3⟩
    have hb3' := hb2'.trans (hb3.mono hb2'.size)
    have R0 := hide (R0.out.below hb3)
    go_wp2_with fail
    refine (markS_nil _ _ _).mono ?_
    rintro e w4 ⟨rfl, rfl⟩
    go_wp2_with fail
    refine (heldS_nil _ _ _).mono ?_
    rintro e w4 ⟨rfl, rfl⟩
    go_wp2_with fail
    refine (HI.out _).mono ?_
    rintro e w6 ⟨v2, rfl, own2, hb6⟩
    have hb6' := hb3'.trans (hb6.mono hb3'.size)
    obtain ⟨a2, cap2, rfl, r2⟩ := readsS_of_own own2
    have R2 := hide r2
    have R0 := hide (R0.out.below hb6)
    clear own2 r2
    go_wp2_with fail
    refine (eqS_any _ _ _ _ _ [] _ R2.out R0.out).mono ?_
    rintro e w7 ⟨rfl, hb7⟩
    have hb7' := hb6'.trans (hb7.mono hb6'.size)
    go_wp2_with fail
    refine (heldS_nil _ _ _).mono ?_
    rintro e w8 ⟨rfl, rfl⟩
    go_wp2_with fail
    go_ret
    exact ⟨rfl, hb7'⟩
  · have hc : ∀ j, j < l.length * 2 → ∃ v, w2.cell? ⟨g, j, none⟩ = some v := fun j hj => ⟨_, (own1.cellAt j hj).trans (List.getElem?_eq_getElem (by rw [symCells_length]; exact hj))⟩
    have hf := own1.frozenAt
    have R1 : Hid (ReadsS w2 (some ⟨g, 0, none⟩) l.length cap l) := ⟨rfl, .inr ⟨g, rfl, hn, hm, fun j hj => own1.cellAt j hj⟩⟩
    have hg2 : g < w2.heap.size := (own1.lt g rfl).2
    have hne : ∀ x, a0 = some x → x.block ≠ g := fun x hx => by have := lt0 x hx; omega
    clear hgx hcs own0 r0 own1 lt0
    generalize hN : l.length = n at *
    have HN := hide hN
    have HC := hide hc
    have HF := hide hf
    have HNE := hide hne
    clear hN hc hf hne
    go_wp2_with fail
    refine (eqS_any _ _ _ _ _ l _ R1.out R0.out).mono ?_
    rintro e w3 ⟨rfl, hb3⟩
    have hb3' := hb2'.trans (hb3.mono hb2'.size)
    have R0 := hide (R0.out.below hb3)
    go_wp2_with fail
    refine (markS_some g n cap _ hl hn (fun j hj => (HC.out j hj).imp fun _ h => keepc hb3 h) (fun j _ => (hb3.frozen (p := ⟨g, j, none⟩) hg2).trans (HF.out j))).mono ?_
    rintro e w4 ⟨rfl, hm4⟩
    have hw1 := hb1.size
    have hb4' : Below w.heap.size w w4 := hm4.belowAt hb3' (by omega)
    have R0 := hide (R0.out.marked hm4 HNE.out)
    have q0 : (0 : Int) ≤ 1 + 2 * (n : Int) := by omega
    go_wp2_with fail
    refine (heldS_some g n cap _ hl hn hm4.new).mono ?_
    rintro e w5 ⟨rfl, rfl⟩
    go_wp2_with fail
    refine (HI.out _).mono ?_
    rintro e w6 ⟨v2, rfl, own2, hb6⟩
    have hb6' := hb4'.trans (hb6.mono hb4'.size)
    obtain ⟨a2, cap2, rfl, r2⟩ := readsS_of_own own2
    rw [HN.out] at r2
    rw [HN.out]
    have R2 := hide r2
    have R0 := hide (R0.out.below hb6)
    clear own2 r2
    go_wp2_with fail
    refine (eqS_any _ _ _ _ _ l _ R2.out R0.out).mono ?_
    rintro e w7 ⟨rfl, hb7⟩
    have hb7' := hb6'.trans (hb7.mono hb6'.size)
    go_wp2_with fail
    refine (heldS_some g n cap _ hl hn (fun j hj => keepc hb7 (keepc hb6 (hm4.new j hj)))).mono ?_
    rintro e w8 ⟨rfl, rfl⟩
    go_wp2_with fail
    go_ret
    exact ⟨rfl, hb7'⟩

open Go.ChangeShapes Go.WideShapes Go.ChangeAt Go.Joins
open Go.ChangeMaps (open_string shut_string)

set_option maxRecDepth 100000 in
theorem fnExactSymsOf_lifted (os : Os) (started : os.Started) (H : Type) (enc : TypeId × Value → H) :
    ReturnsInHanded {} Try.checked os 9 .any (Rows.fnExactSymsOfSpec.pre6 enc Try.prog Try.f9 Rows.fnExactSymsOfRow.domain false) (Rows.fnExactSymsOfSpec.post enc Try.prog Try.f9 false true false false) := by
  refine returnsInHanded_of_change (C := Try.checked) Try.own started (by kernel_rfl) Try.func9
    (ChangeSpec.witness6 (enc := enc) (C := Try.checked) false ⟨#[], #[.int .i64 0], []⟩ 8 (by kernel_rfl) (by kernel_rfl) (by kernel_rfl) (by kernel_rfl)) ?_
  intro W base args ds gs before hval0 hW _ _
  have hval : ∀ (j : Nat) t v, Try.f9.params[j]? = some t → args[j]? = some v → Value.okWide Try.prog W .any base t v := hval0
  have hW' := hW
  obtain ⟨p, q, hA0, hV, rfl, _, _⟩ := hW
  have hA : DataW.TrodAll enc Try.prog W 0 (fun _ => true) true Try.f9.params.toList args.toList ds p := hA0
  rw [Try.params9] at hA hval
  obtain ⟨v0, vs0, d0, ds0, p0, q0, hargs, rfl, rfl, h0, r0⟩ := trodAll_cons hA
  obtain ⟨rfl, rfl, rfl⟩ := trodAll_nil r0
  obtain rfl : args = #[v0] := by cases args; simp_all
  obtain ⟨rfl, rfl⟩ := trodVars_none hV
  have k0 := h0
  have lt0 : ∀ x ∈ p0, x.block < W.heap.size := by obtain ⟨m, hm⟩ := k0; exact DataW.trod_lt m _ _ _ hm
  obtain ⟨n0, rfl, _, _, w0⟩ := open_int Try.underlying3 (hval 0 3 v0 rfl rfl) h0
  clear hA0 hval0
  refine (FnExactSymsOf_walk n0 W w0).mono fun e W' ⟨he, bel⟩ => ?_
  subst he
  exact ⟨_, rfl, _, _, _, [], _, [], hW', trodAll_mk1 (shut_bool Try.underlying4 _), (trodAll_cons_mk (Below.trod Try.laidOut (by kernel_rfl) (of_decide_eq_true (by kernel_rfl)) k0 bel lt0) trodAll_mk0), rfl, bel.frame _, fun h => by cases h⟩

/-- The statement. -/
theorem fnExactSymsOf_proved : Rows.FnExactSymsOfSaid :=
  OpenClaim.holds_of_wide 9 Try.f9 rfl rfl rfl rfl rfl rfl rfl ⟨rfl, rfl, rfl, rfl, rfl⟩ rfl rfl rfl rfl rfl (by kernel_rfl) Try.func9 (by kernel_rfl)
    (of_decide_eq_true (by kernel_rfl)) (by unfold Func.isWrapper; rw [if_neg (of_decide_eq_false (by kernel_rfl))]; exact ⟨rfl, rfl⟩)
    (fun os started H enc _ => fnExactSymsOf_lifted os started H enc)
#print axioms fnExactSymsOf_proved

end Go.Proofs.Ytnpgdijafmkmkaa
