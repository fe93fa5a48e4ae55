/- The law FnFold: a fold lies in the wedge, is the image that is told, and is the same for all images of a point. No condition. -/
import Derived.Test.YtgafdkaiiajieaaFold
import Derived.Test.YtgafdkaiiajieaaHasS
import Derived.Test.YtgafdkaiiajieaaDrawPt
import Derived.Test.YtgafdkaiiajieaaBig
namespace Go.Proofs.Ytgafdkaiiajieaa
open Go.RowKit Go.Sort
open Fl

theorem orbL_mem {x y : Nat} {l : List (Int × Bool)} {p : Nat × Nat} (h : p ∈ orbL x y l) : ∃ t f, (t, f) ∈ l ∧ actW t f x y = p := by
  have key : ∀ k, k ≤ l.length → p ∈ orbL x y (l.take k) → ∃ t f, (t, f) ∈ l ∧ actW t f x y = p := by
    intro k
    induction k with
    | zero => intro _ h; simp [orbL] at h
    | succ k ih =>
      intro hk h
      rw [orbL_succ (by omega)] at h
      unfold dedZ at h
      split at h
      · exact ih (by omega) h
      · rcases List.mem_append.1 h with h | h
        · exact ih (by omega) h
        · exact ⟨l[k].1, l[k].2, List.getElem_mem (by omega), (List.mem_singleton.1 h).symm⟩
  exact key l.length (Nat.le_refl _) (by rw [List.take_length]; exact h)

theorem eq_bool {x y : Nat} (hx : fin x) (hy : fin y) : (FloatKind.f32.format.order x y == some .eq) = decide (val x = val y) := by
  rw [show FloatKind.f32.format.order x y = some (compare (val x) (val y)) from order_fin hx hy, Bool.eq_iff_iff]
  rcases h : compare (val x) (val y) with _ | _ | _
  · have := Int.compare_eq_lt.1 h; simp; omega
  · have := Int.compare_eq_eq.1 h; simp; omega
  · have := Int.compare_eq_gt.1 h; simp; omega

/-- What holds of an image of a point and of the point's fold. -/
theorem image_fold {kind : Int} (h0 : 0 ≤ kind) (h3 : kind ≤ 3) {x y : Nat} (hp : Pt x y) {px py : Nat} (hpc : PtC px py) (hv : (val px, val py) = foldI kind (val x, val y))
    {s : Nat × Nat} (hs : s ∈ orbL x y (symsOf kind)) :
    (∀ W, Calls Try.prog 13 #[.int .i64 kind, .complex .f32 s.1 s.2] W fun e w' => ∃ t f, e = .returned (.tuple #[.complex .f32 px py, .agg #[.int .i64 t, .bool f], .bool true]) ∧ Below W.heap.size W w') ∧
    ∀ W, Calls Try.prog 14 #[.int .i64 kind, .complex .f32 s.1 s.2] W fun e w' => e = .returned (.bool (FloatKind.f32.format.order s.1 px == some .eq && FloatKind.f32.format.order s.2 py == some .eq)) ∧ W = w' := by
  obtain ⟨t, f, hm, rfl⟩ := orbL_mem hs
  obtain ⟨hc, hva⟩ := act_ok t f hp
  have hfold : foldI kind (val (actW t f x y).1, val (actW t f x y).2) = (val px, val py) := by rw [hva, fold_act h0 h3 hm, hv]
  refine ⟨fun W => (foldPoint_any kind _ _ W h0 h3 hc.pt).mono ?_, fun W => ?_⟩
  · rintro e w' ⟨t', f', rfl, _, hu, hb⟩
    rw [hfold] at hu
    obtain ⟨e1, e2⟩ := pt_eq (act_ok t' f' hc.pt).1 hpc hu
    exact ⟨t', f', by rw [e1, e2], hb⟩
  · have q := inWedge_any kind _ _ W h0 h3 hc.pt
    have e : wedgeI kind (val (actW t f x y).1, val (actW t f x y).2) = (FloatKind.f32.format.order (actW t f x y).1 px == some .eq && FloatKind.f32.format.order (actW t f x y).2 py == some .eq) := by
      rw [eq_bool hc.cx.fin hpc.cx.fin, eq_bool hc.cy.fin hpc.cy.fin, Bool.eq_iff_iff, wedge_fold h0 h3, hfold, Prod.mk.injEq]
      simp only [Bool.and_eq_true, decide_eq_true_eq]
      exact ⟨fun h => ⟨h.1.symm, h.2.symm⟩, fun h => ⟨h.1.symm, h.2.symm⟩⟩
    rw [e] at q
    exact q

set_option maxRecDepth 100000 in
set_option maxHeartbeats 4000000 in
theorem FnFold_walk (a : Option Addr) (len cap : Nat) (z : List Int) (w : World) (hz : IsRow .u8 w a len cap z) :
    Calls Try.prog 3 #[.slice a len cap] w fun e w' => e = .returned (.bool true) ∧ Below w.heap.size w w' := by
  have HC := hide (isCode_of_row hz)
  have hm := (isCode_of_row hz).1
  clear hz
  by_cases hb : 4096 < len
  · go_enter Try.func3, Try.ntmps3
    go_wp2_with fail
    refine (big_any _ _ _ _).mono ?_
    rintro e w' ⟨rfl, rfl⟩
    go_wp2_with fail
    go_ret
    exact ⟨rfl, Below.refl _ _⟩
  · go_enter Try.func3, Try.ntmps3
    go_wp2_with fail
    refine (big_any _ _ _ _).mono ?_
    rintro e w' ⟨rfl, rfl⟩
    go_wp2_with fail
    refine (drawPlace_any _ _ _ _ HC.out).mono ?_
    rintro e w1 ⟨kind, x, y, rfl, k0, k3, hpt, bel⟩
    go_wp2_with fail
    refine (foldPoint_any kind x y _ k0 k3 hpt).mono ?_
    rintro e w2 ⟨t, f, rfl, hmem, hval, hb2⟩
    have bel := belowOf bel hb2
    have hpc := (act_ok t f hpt).1
    have A := hide (fun W => actSym_y t f x y W (symsOf_win hmem) hpt)
    have hw : wedgeI kind (val (actW t f x y).1, val (actW t f x y).2) = true := by
      rw [hval, wedge_fold k0 k3, ← hval, (act_ok t f hpt).2, fold_act k0 k3 hmem, ← (act_ok t f hpt).2, hval]
    have IW := hide (fun W => inWedge_any kind (actW t f x y).1 (actW t f x y).2 W k0 k3 hpc.pt)
    rw [hw] at IW
    have IM := hide (fun s hs => image_fold k0 k3 hpt hpc hval (s := s) hs)
    have hle := symsOf_le kind
    have hpos : 0 < (symsOf kind).length := List.length_pos_of_mem hmem
    have OR := hide (fun W => orbitOf_any kind x y W hpt hpos)
    have HS := hide (fun W => symsOf_any kind W)
    have HH := hide (fun a cap W (h : ReadsS W a (symsOf kind).length cap (symsOf kind)) => has_any a (symsOf kind).length cap (symsOf kind) t f W h hle)
    rw [has_of_mem hmem] at HH
    have q1 : FloatKind.f32.format.order (actW t f x y).1 (actW t f x y).1 = some .eq := order_self hpc.cx.fin hpc.cx.fin rfl
    have q2 : FloatKind.f32.format.order (actW t f x y).2 (actW t f x y).2 = some .eq := order_self hpc.cy.fin hpc.cy.fin rfl
    have olen := orbL_len x y (symsOf kind)
    have opos := orbL_pos x y hpos
    clear hw hpc hval hmem hpos hpt hb2 HC
    unfold RetOrb at OR
    generalize symsOf kind = l at A IW IM OR HS HH hle olen opos
    generalize orbL x y l = O at OR IM olen opos
    generalize actW t f x y = P at A IW IM q1 q2 ⊢
    obtain ⟨px, py⟩ := P
    simp only at q1 q2
    replace A : Hid (∀ W, Calls Try.prog 17 #[.agg #[.int .i64 t, .bool f], .complex .f32 x y] W fun e w' => e = .returned (.complex .f32 px py) ∧ Below W.heap.size W w') := A
    replace IW : Hid (∀ W, Calls Try.prog 14 #[.int .i64 kind, .complex .f32 px py] W fun e w' => e = .returned (.bool true) ∧ W = w') := IW
    go_upto_region 5 with fail
    have g0 : (w2.alloc (.cells #[.int .i64 t, .bool f] 28)).cell? ⟨w2.heap.size, 0, none⟩ = some (.int .i64 t) := by go_simp
    have g1 : (w2.alloc (.cells #[.int .i64 t, .bool f] 28)).cell? ⟨w2.heap.size, 1, none⟩ = some (.bool f) := by go_simp
    have bel : Below w.heap.size w (w2.alloc (.cells #[.int .i64 t, .bool f] 28)) := bel.alloc bel.size _
    generalize w2.alloc (.cells #[.int .i64 t, .bool f] 28) = wA at g0 g1 bel ⊢
    go_region_held3 (fun w' => w'.cell? ⟨w2.heap.size, 0, none⟩ = some (.int .i64 t) ∧ w'.cell? ⟨w2.heap.size, 1, none⟩ = some (.bool f))
      ((refine (show Below wA.heap.size wA _ → _ from fun hk => ⟨keepc hk g0, keepc hk g1⟩) ?_; first | (with_reducible exact Below.refl _ _) | (with_reducible exact (Below.refl _ _).drew) | (with_reducible exact bw1) | (with_reducible exact bw1.drew) | (with_reducible exact bw2) | (with_reducible exact bw2.drew) | (with_reducible exact bw3) | (with_reducible exact bw3.drew)))
      (first | (go_at_call 14; (with_reducible refine (IW.out _).mono ?_); rintro e w' ⟨rfl, rfl⟩) | (go_at_call 16; (with_reducible refine (HS.out _).mono ?_); rintro e w1' ⟨vS, rfl, hownS, hb1⟩; obtain ⟨aS, cS, rfl, hrS⟩ := readsS_of_own hownS; have bw1 := belowOf (w := wA) (by first | (with_reducible exact Below.refl _ _) | (with_reducible exact (Below.refl _ _).drew) | (with_reducible exact ((Below.refl _ _).alloc (Nat.le_refl _) _)) | (with_reducible exact ((Below.refl _ _).alloc (Nat.le_refl _) _).drew) | (with_reducible exact ((Below.refl _ _).drew.alloc (Nat.le_refl _) _))) hb1; clear hownS hb1) | (go_at_call 15; (with_reducible refine (HH.out _ _ _ (hrS.below (by first | (with_reducible exact Below.refl _ _) | (with_reducible exact (Below.refl _ _).drew) | (with_reducible exact ((Below.refl _ _).alloc (Nat.le_refl _) _)) | (with_reducible exact ((Below.refl _ _).alloc (Nat.le_refl _) _).drew) | (with_reducible exact ((Below.refl _ _).drew.alloc (Nat.le_refl _) _))))).mono ?_); rintro e w2' ⟨rfl, hb2⟩; have bw2 := belowOf bw1 (belowOf (w := w1') (by first | (with_reducible exact Below.refl _ _) | (with_reducible exact (Below.refl _ _).drew) | (with_reducible exact ((Below.refl _ _).alloc (Nat.le_refl _) _)) | (with_reducible exact ((Below.refl _ _).alloc (Nat.le_refl _) _).drew) | (with_reducible exact ((Below.refl _ _).drew.alloc (Nat.le_refl _) _))) hb2); clear hb2) | (go_at_call 17; (with_reducible refine (A.out _).mono ?_); rintro e w3' ⟨rfl, hb3⟩; have bw3 := belowOf bw2 (belowOf (w := w2') (by first | (with_reducible exact Below.refl _ _) | (with_reducible exact (Below.refl _ _).drew) | (with_reducible exact ((Below.refl _ _).alloc (Nat.le_refl _) _)) | (with_reducible exact ((Below.refl _ _).alloc (Nat.le_refl _) _).drew) | (with_reducible exact ((Below.refl _ _).drew.alloc (Nat.le_refl _) _))) hb3); clear hb3))
    have bel := belowOf bel bw3
    clear bw1 bw2 bw3 hrS g0 g1 HS HH A IW
    go_wp2_with fail
    refine (OR.out _).mono ?_
    rintro e w4 ⟨v, zs, rfl, hrow, hlen, hsub, hb4⟩
    have bel := belowOf bel hb4
    obtain ⟨aZ, cZ, rfl, hRZ⟩ := readsZ_of_row hrow
    have HM := hide (fun s hs => IM.out s (hsub s hs))
    clear hrow hb4 OR hsub IM
    have hn8 : zs.length ≤ 8 := by omega
    have hn0 : 0 < zs.length := by omega
    have hRZ := hide hRZ
    generalize hN : zs.length = n at hRZ hn8 hn0 ⊢
    have HN := hide hN
    clear hN hlen olen opos hle
    go_wp2_with fail
    go_loopw [9] (fun i wr => ∃ k : Nat, k ≤ n ∧ i = .int .i64 k ∧ Below w4.heap.size w4 wr) (fun i _ => n - (intOf i).toNat)
    case atStart => exact ⟨0, Nat.zero_le _, rfl, Below.refl _ _⟩
    case round =>
      obtain ⟨k, hk, rfl, hb5⟩ := hrel
      by_cases hlt : k < n
      · obtain ⟨g, rfl, hg⟩ : ∃ g, aZ = some ⟨g, 0, none⟩ ∧ ∀ j, j < n → w4.cell? ⟨g, j, none⟩ = some (cv (zs.getD j (0, 0))) := by
          rcases hRZ.out.2 with h0 | ⟨g, hg, _, _, hc⟩
          · omega
          · exact ⟨g, hg, hc⟩
        have x0 := keepc hb5 (hg k hlt)
        have HI := hide (HM.out (zs.getD k (0, 0)) (by
          have hkl : k < zs.length := by rw [HN.out]; exact hlt
          simp [List.getD, List.getElem?_eq_getElem hkl]))
        clear hg
        generalize zs.getD k (0, 0) = s at x0 HI
        obtain ⟨sx, sy⟩ := s
        replace x0 : wr.cell? ⟨g, k, none⟩ = some (.complex .f32 sx sy) := x0
        have F1 : Hid (∀ W, Calls Try.prog 13 #[.int .i64 kind, .complex .f32 sx sy] W fun e w' => ∃ t f, e = .returned (.tuple #[.complex .f32 px py, .agg #[.int .i64 t, .bool f], .bool true]) ∧ Below W.heap.size W w') := HI.out.1
        have F2 : Hid (∀ W, Calls Try.prog 14 #[.int .i64 kind, .complex .f32 sx sy] W fun e w' => e = .returned (.bool (FloatKind.f32.format.order sx px == some .eq && FloatKind.f32.format.order sy py == some .eq)) ∧ W = w') := HI.out.2
        clear HI
        have bel5 := belowOf bel hb5
        go_wp2_with fail
        refine (F1.out _).mono ?_
        rintro e w6 ⟨t', f', rfl, hb6⟩
        have x0 := keepc hb6 x0
        have hb5 := belowOf hb5 hb6
        clear hb6 F1 bel5
        go_upto_region 12 with fail
        have hb7 := hb5.alloc hb5.size (.cells #[.int .i64 t', .bool f'] 28)
        have x0 : (w6.alloc (.cells #[.int .i64 t', .bool f'] 28)).cell? ⟨g, k, none⟩ = some (.complex .f32 sx sy) := keepc ((Below.refl _ _).alloc (Nat.le_refl _) _) x0
        clear hb5
        generalize w6.alloc (.cells #[.int .i64 t', .bool f'] 28) = wB at x0 hb7 ⊢
        cases h1 : (FloatKind.f32.format.order sx px == some .eq) <;> cases h2 : (FloatKind.f32.format.order sy py == some .eq)
        all_goals
          rw [h1, h2] at F2
          go_region_held3 (fun w' => w'.cell? ⟨g, k, none⟩ = some (.complex .f32 sx sy))
            (exact keepc (by repeat (first | exact Below.refl _ _ | assumption | refine Below.drew ?_ | refine Below.setCell ?_ (by first | (dsimp only; omega) | (simp; omega) | simp) _ | refine Below.alloc ?_ (by first | omega | (simp; omega) | simp) _)) x0)
            (first | (go_at_call 14; (with_reducible refine (F2.out _).mono ?_); rintro e w' ⟨rfl, rfl⟩))
          have hb8 := hb7.drew
          clear hb7 x0 h1 h2 F2
          generalize wB.drew = wC at hb8 ⊢
          go_wp2_with fail
          go_roundw
          case rel => exact ⟨k + 1, by omega, by go_num, hb8⟩
          case measure => simp [intOf]; omega
      · obtain rfl : k = n := by omega
        have bel := belowOf bel hb5
        go_wp2_with fail
        go_ret
        exact ⟨rfl, bel⟩

open Go.ChangeShapes Go.WideShapes Go.ChangeAt Go.Joins
open Go.ChangeMaps (open_string shut_string)

set_option maxRecDepth 100000 in
theorem fnFold_lifted (os : Os) (started : os.Started) (H : Type) (enc : TypeId × Value → H) :
    ReturnsInHanded {} Try.checked os 3 .any (Rows.fnFoldSpec.pre6 enc Try.prog Try.f3 Rows.fnFoldRow.domain false) (Rows.fnFoldSpec.post enc Try.prog Try.f3 false true false false) := by
  refine returnsInHanded_of_change (C := Try.checked) Try.own started (by kernel_rfl) Try.func3
    (ChangeSpec.witness6 (enc := enc) (C := Try.checked) false ⟨#[], #[.slice none 0 0], []⟩ 8 (by kernel_rfl) (by kernel_rfl) (by kernel_rfl) (by kernel_rfl)) ?_
  intro W base args ds gs before hval0 hW _ _
  have hval : ∀ (j : Nat) t v, Try.f3.params[j]? = some t → args[j]? = some v → Value.okWide Try.prog W .any base t v := hval0
  have hW' := hW
  obtain ⟨p, q, hA0, hV, rfl, _, _⟩ := hW
  have hA : DataW.TrodAll enc Try.prog W 0 (fun _ => true) true Try.f3.params.toList args.toList ds p := hA0
  rw [Try.params3] at hA hval
  obtain ⟨v0, vs0, d0, ds0, p0, q0, hargs, rfl, rfl, h0, r0⟩ := trodAll_cons hA
  obtain ⟨rfl, rfl, rfl⟩ := trodAll_nil r0
  obtain rfl : args = #[v0] := by cases args; simp_all
  obtain ⟨rfl, rfl⟩ := trodVars_none hV
  have k0 := h0
  have lt0 : ∀ x ∈ p0, x.block < W.heap.size := by obtain ⟨m, hm⟩ := k0; exact DataW.trod_lt m _ _ _ hm
  obtain ⟨a0, len0, cap0, rfl⟩ := okWide_slice Try.underlying22 (hval 0 22 v0 rfl rfl)
  obtain ⟨z0, w0⟩ : ∃ zs, IsRow .u8 W a0 len0 cap0 zs := by
    obtain ⟨fuel, hf⟩ := h0
    rcases open_ints Try.underlying22 Try.underlying5 (by kernel_rfl) hf with ⟨hcs, _⟩ | ⟨x, l, c, zs, hcs, _, hl, hm, hz, _, hcell, hwz⟩
    · simp [Value.cells] at hcs
      obtain ⟨rfl, rfl, rfl⟩ := hcs
      exact ⟨[], .inl ⟨rfl, rfl, rfl, rfl⟩⟩
    · simp [Value.cells] at hcs
      obtain ⟨rfl, rfl, rfl⟩ := hcs
      exact ⟨zs, .inr ⟨_, rfl, hl, hm, by simpa using hz, hcell, hwz⟩⟩
  clear hA0 hval0
  refine (FnFold_walk a0 len0 cap0 z0 W w0).mono fun e W' ⟨he, bel⟩ => ?_
  subst he
  exact ⟨_, rfl, _, _, _, [], _, [], hW', trodAll_mk1 (shut_bool Try.underlying4 _), (trodAll_cons_mk (Below.trod Try.laidOut (by kernel_rfl) (of_decide_eq_true (by kernel_rfl)) k0 bel lt0) trodAll_mk0), rfl, bel.frame _, fun h => by cases h⟩

/-- The statement. -/
theorem fnFold_proved : Rows.FnFoldSaid :=
  OpenClaim.holds_of_wide 3 Try.f3 rfl rfl rfl rfl rfl rfl rfl ⟨rfl, rfl, rfl, rfl, rfl⟩ rfl rfl rfl rfl rfl (by kernel_rfl) Try.func3 (by kernel_rfl)
    (of_decide_eq_true (by kernel_rfl)) (by unfold Func.isWrapper; rw [if_neg (of_decide_eq_false (by kernel_rfl))]; exact ⟨rfl, rfl⟩)
    (fun os started H enc _ => fnFold_lifted os started H enc)
#print axioms fnFold_proved

end Go.Proofs.Ytgafdkaiiajieaa
