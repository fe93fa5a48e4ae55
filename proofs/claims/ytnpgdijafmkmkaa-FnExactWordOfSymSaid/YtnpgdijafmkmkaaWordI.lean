/- What the program's SymOfWord computes. For all kinds and words. -/
import Derived.Test.YtnpgdijafmkmkaaWordS
import Derived.Test.YtnpgdijafmkmkaaEqS
import Derived.Test.YtnpgdijafmkmkaaOfI
import Derived.StillTailTactics
namespace Go.Proofs.Ytnpgdijafmkmkaa
open Go.RowKit

theorem mir_nat {kind z : Int} {s : Int × Bool} (h : mir kind z = some s) : ∃ m : Nat, z = (m : Int) ∧ ∃ hm : m < (mirs kind).length, (mirs kind)[m] = s := by
  unfold mir at h
  by_cases h0 : 0 ≤ z
  · rw [if_pos h0] at h
    obtain ⟨hm, e⟩ := List.getElem?_eq_some_iff.1 h
    exact ⟨z.toNat, by omega, hm, e⟩
  · rw [if_neg h0] at h
    cases h

theorem mir_none_win {kind z : Int} (h : mir kind z = none) : win z 0 (((mirs kind).length : Int) - 1) = false := by
  cases hw : win z 0 (((mirs kind).length : Int) - 1)
  · rfl
  · exfalso
    obtain ⟨h1, h2⟩ := win_iff.1 hw
    rcases mir_cases kind z with ⟨_, _, e⟩ | ⟨_, _, e⟩ | ⟨_, _, e⟩ | ⟨_, _, e⟩ | ⟨_, _, e⟩ | ⟨_, e⟩
    · rw [h] at e; cases e
    · rw [h] at e; cases e
    · rw [h] at e; cases e
    · rw [h] at e; cases e
    · rw [h] at e; cases e
    · exact e ⟨h1, by omega⟩

theorem mirs_le (kind : Int) : (mirs kind).length ≤ 2 := by
  unfold mirs
  split
  · decide
  · split
    · decide
    · split <;> decide

theorem wordSym_bad {kind : Int} {l : List Int} (h : win kind 0 3 = false ∨ 24 < l.length ∨ wordFrom kind (0, false) l = none) : wordSym kind l = none := by
  unfold wordSym
  rcases h with h | h | h
  · rw [h]; rfl
  · rw [show decide (l.length ≤ 24) = false from decide_eq_false (by omega)]; simp
  · rw [h]; split <;> rfl

theorem wordSym_good {kind : Int} {l : List Int} {g : Int × Bool} (h : win kind 0 3 = true) (h' : l.length ≤ 24) (hg : wordFrom kind (0, false) l = some g) : wordSym kind l = some g := by
  unfold wordSym
  rw [h, decide_eq_true h', hg]
  rfl

theorem ReadsS.set {w : World} {a : Option Addr} {n cap q j : Nat} {u : Value} {l : List (Int × Bool)} (h : ReadsS w a n cap l) (hne : ∀ x, a = some x → x.block ≠ q) : ReadsS (w.setCell ⟨q, j, none⟩ u) a n cap l := by
  obtain ⟨h1, h2⟩ := h
  refine ⟨h1, ?_⟩
  rcases h2 with h2 | ⟨g, rfl, hn, hm, hc⟩
  · exact .inl h2
  · have hg : g ≠ q := hne _ rfl
    exact .inr ⟨g, rfl, hn, hm, fun i hi => (World.cell?_setCell_other _ _ _ _ (by intro e; cases e; exact hg rfl)).trans (hc i hi)⟩

set_option maxHeartbeats 1000000 in
theorem symOfWord_kind (kind : Int) (a : Option Addr) (n cap : Nat) (w : World) (g : (Int × Bool) × Bool) (HP : Hid (g = ((0, false), false))) (hw : win kind 0 3 = false) :
    Calls Try.prog 34 #[.int .i64 kind, .slice a n cap] w (RetWord w g) := by
  have kr : w.heap.size ≤ w.heap.size := Nat.le_refl _
  go_enter Try.func34, Try.ntmps34
  go_wp2_with (go_at_call 50; refine (isKind_any _ _).mono ?_; rintro e w' ⟨rfl, rfl⟩)
  exact bodyPost_ret (v := .tuple #[.agg #[.int .i64 0, .bool false], .bool false]) (by simp [results, Try.results34, go_sem]) rfl (retWord_of HP.out rfl (by repeat (first | exact Below.refl _ _ | assumption | refine Below.drew ?_ | refine Below.setCell ?_ (by first | (dsimp only; omega) | (simp; omega) | simp) _ | refine Below.alloc ?_ (by first | omega | (simp; omega) | simp) _)))

set_option maxHeartbeats 1000000 in
theorem symOfWord_long (kind : Int) (a : Option Addr) (n cap : Nat) (w : World) (g : (Int × Bool) × Bool) (HP : Hid (g = ((0, false), false))) (hw : win kind 0 3 = true) (hn : 24 < n) (hm : n ≤ 9223372036854775807) :
    Calls Try.prog 34 #[.int .i64 kind, .slice a n cap] w (RetWord w g) := by
  have kr : w.heap.size ≤ w.heap.size := Nat.le_refl _
  have hI : (24 : Int) < (n : Int) := by omega
  have hB : decide ((24 : Int) < (n : Int)) = true := decide_eq_true hI
  go_enter Try.func34, Try.ntmps34
  go_wp2_with (go_at_call 50; refine (isKind_any _ _).mono ?_; rintro e w' ⟨rfl, rfl⟩)
  exact bodyPost_ret (v := .tuple #[.agg #[.int .i64 0, .bool false], .bool false]) (by simp [results, Try.results34, go_sem]) rfl (retWord_of HP.out rfl (by repeat (first | exact Below.refl _ _ | assumption | refine Below.drew ?_ | refine Below.setCell ?_ (by first | (dsimp only; omega) | (simp; omega) | simp) _ | refine Below.alloc ?_ (by first | omega | (simp; omega) | simp) _)))

set_option maxHeartbeats 4000000 in
theorem symOfWord_yes (kind : Int) (a : Option Addr) (n cap : Nat) (l : List Int) (w : World) (hl : ReadsI w a n cap l) (hw : win kind 0 3 = true) (hn : n ≤ 24) :
    Calls Try.prog 34 #[.int .i64 kind, .slice a n cap] w (RetWord w ((wT kind l, wF kind l), wOk kind l)) := by
  have hlen := hl.1
  have HL := hide hl
  have HLEN := hide hlen
  have hI : ¬ (24 : Int) < (n : Int) := by omega
  have hB : decide ((24 : Int) < (n : Int)) = false := decide_eq_false hI
  have hM2 := mirs_le kind
  have r0 : (w.alloc (.cells #[.int .i64 0, .bool false] 26)).cell? ⟨w.heap.size, 0, none⟩ = some (.int .i64 0) := by go_simp
  have r1 : (w.alloc (.cells #[.int .i64 0, .bool false] 26)).cell? ⟨w.heap.size, 1, none⟩ = some (.bool false) := by go_simp
  have rf : ∀ j, (w.alloc (.cells #[.int .i64 0, .bool false] 26)).frozen? ⟨w.heap.size, j, none⟩ = false := fun j => by go_simp
  have nb : Below w.heap.size w (w.alloc (.cells #[.int .i64 0, .bool false] 26)) := (Below.refl _ _).alloc (Nat.le_refl _) _
  clear hl hlen
  go_enter Try.func34, Try.ntmps34
  go_wp2_with (go_at_call 50; refine (isKind_any _ _).mono ?_; rintro e w' ⟨rfl, rfl⟩)
  generalize w.alloc (.cells #[.int .i64 0, .bool false] 26) = wA at r0 r1 rf nb ⊢
  refine (letters_any kind _).mono ?_
  rintro e w1 ⟨v, rfl, hown, hb1⟩
  have hlt := hown.lt
  obtain ⟨am, capm, rfl, hrs⟩ := readsS_of_own hown
  clear hown
  have hne : ∀ x, am = some x → x.block ≠ w1.heap.size := fun x hx => by
    have := (hlt x.block (by rw [hx]; rfl)).2
    omega
  clear hlt
  have r0 := keepc hb1 r0
  have r1 := keepc hb1 r1
  have rf := fun j => (hb1.frozen (p := ⟨w.heap.size, j, none⟩) (show w.heap.size < _ from World.block_lt_of_cell? wA _ (by assumption))).trans (rf j)
  have bel := belowOf nb hb1
  have hlt1 : w.heap.size < w1.heap.size := World.block_lt_of_cell? w1 _ r0
  clear hb1 nb
  have hinv : WInv w kind l w.heap.size w1.heap.size 0 0 false (w1.alloc (.cells #[.int .i64 0, .bool false] 26)) :=
    ⟨by go_simp, by go_simp, by go_simp, by go_simp, fun j => by go_simp, fun j => by go_simp, rfl, by decide, bel.alloc bel.size _⟩
  have hrs2 := hrs.below ((Below.refl w1.heap.size w1).alloc (Nat.le_refl _) (.cells #[.int .i64 0, .bool false] 26))
  clear hrs
  generalize hm0 : (mirs kind).length = m0 at hrs2 hM2
  have HM0 := hide hm0
  clear hm0
  go_wp2_with fail
  generalize w1.alloc (.cells #[.int .i64 0, .bool false] 26) = wB at hinv hrs2 ⊢
  obtain ⟨q, hq⟩ : ∃ q, w1.heap.size = q := ⟨_, rfl⟩
  rw [hq] at hinv hlt1 hne ⊢
  have NE := hide hne
  have HRS := hide hrs2
  clear hne hrs2
  clear hq r0 r1 rf bel
  go_loopw [24] (fun i wr => ∃ (k : Nat) (t : Int) (f : Bool), k ≤ n ∧ i = .int .i64 k ∧ WInv w kind l w.heap.size q k t f wr ∧ Hid (ReadsS wr am m0 capm (mirs kind))) (fun i _ => n - (intOf i).toNat)
  case atStart => exact ⟨0, 0, false, Nat.zero_le _, rfl, hinv, HRS⟩
  case round =>
    clear hinv HRS
    obtain ⟨k, t, f, hk, rfl, hv, HRS⟩ := hrel
    have r0 := hv.r0
    have r1 := hv.r1
    have rf := hv.rf
    have g0 := hv.g0
    have g1 := hv.g1
    have gf := hv.gf
    have bel := hv.bel
    have kr : w.heap.size ≤ w.heap.size := Nat.le_refl _
    by_cases hlt : k < n
    · obtain ⟨b, off, rfl, hc⟩ := HL.out.at hlt
      have hc := keepc bel hc
      have HD := hide (drop_at (l := l) (k := k) (by rw [HLEN.out]; exact hlt))
      generalize l.getD k 0 = z at hc HD
      cases hmir : mir kind z with
      | none =>
        have hwz := mir_none_win hmir
        rw [HM0.out] at hwz
        have HP := hide (wSym_none (wordSym_bad (.inr (.inr (hv.val.trans (by rw [HD.out]; exact wordFrom_none hmir))))))
        clear hmir HD hv
        go_wp2_with (go_at_call 46; refine (within_any _ _ _ _).mono ?_; rintro e w' ⟨rfl, rfl⟩)
        exact bodyPost_ret (v := .tuple #[.agg #[.int .i64 0, .bool false], .bool false]) (by simp [results, Try.results34, go_sem, r0, r1]) rfl (retWord_of HP.out rfl (by repeat (first | exact Below.refl _ _ | assumption | refine Below.drew ?_ | refine Below.setCell ?_ (by first | (dsimp only; omega) | (simp; omega) | simp) _ | refine Below.alloc ?_ (by first | omega | (simp; omega) | simp) _)))
      | some h =>
        obtain ⟨t', f'⟩ := h
        obtain ⟨m, rfl, hm, hme⟩ := mir_nat hmir
        have hm' : m < m0 := by rw [← HM0.out]; exact hm
        have hwz : win (m : Int) 0 ((m0 : Int) - 1) = true := win_true (by omega) (by omega)
        obtain ⟨gm, rfl, hx⟩ : ∃ g, am = some ⟨g, 0, none⟩ ∧ (wr.cell? ⟨g, m * 2, none⟩ = some (.int .i64 t') ∧ wr.cell? ⟨g, m * 2 + 1, none⟩ = some (.bool f')) := by
          obtain ⟨h1, h2⟩ := HRS.out
          rcases h2 with h2 | ⟨g, hg, _, _, hcs⟩
          · omega
          · have := ReadsS.at hcs h1 m hm'
            rw [hme] at this
            exact ⟨g, hg, this⟩
        obtain ⟨x0, x1⟩ := hx
        have HT := hide (fun W => thenSym_any t t' f f' W)
        have HS := hide (show wordFrom kind (t, f) (l.drop k) = wordFrom kind (thT t t' f', thF t f t' f') (l.drop (k + 1)) by rw [HD.out]; exact wordFrom_some hmir)
        have HW := hide (win_th t t' f')
        generalize thT t t' f' = T at HT HS HW
        generalize thF t f t' f' = F at HT HS
        have HV := hide hv
        clear hmir HD hme hm r0 r1 rf hv
        go_wp2_with (go_at_call 46; refine (within_any _ _ _ _).mono ?_; rintro e w' ⟨rfl, rfl⟩)
        refine wp_region_still_tail 5 (by kernel_rfl) (by kernel_rfl) ?_
        simp only [List.take_succ_cons, List.take_zero, List.drop_succ_cons, List.drop_zero]
        repeat still_step
        refine wpStill_nil ?_
        change wpList _ _ _ _ _ wr.drew
        have hbd : Below wr.heap.size wr wr.drew := (Below.refl _ _).drew
        have hv1 := HV.out.below hbd
        have hr1 := HRS.out.below hbd
        generalize wr.drew = wd at hv1 hr1 ⊢
        clear hbd x0 x1 hc g0 g1 gf bel
        have HV1 := hide hv1
        have HR1 := hide hr1
        clear hv1 hr1
        go_wp2_with fail
        refine (HT.out _).mono ?_
        rintro e w2 ⟨rfl, hb2⟩
        have hv2 := HV1.out.below hb2
        have g0 := hv2.g0
        have g1 := hv2.g1
        have gf := hv2.gf
        have hn := hv2.step (by omega) (by omega) HS.out HW.out
        have HRN : Hid (ReadsS ((w2.setCell ⟨q, 0, none⟩ (.int .i64 T)).setCell ⟨q, 1, none⟩ (.bool F)) (some ⟨gm, 0, none⟩) m0 capm (mirs kind)) := ((HR1.out.below hb2).set NE.out).set NE.out
        clear hb2 hv2
        go_wp2_with fail
        go_roundw
        case rel => exact ⟨k + 1, T, F, by omega, by go_num, hn, HRN⟩
        case measure => simp [intOf]; omega
    · obtain rfl : k = n := by omega
      have hd : l.drop k = [] := List.drop_eq_nil_of_le (by rw [HLEN.out]; exact Nat.le_refl _)
      have HP := hide (wSym_some (wordSym_good hw (by rw [HLEN.out]; exact hn) (hv.val.trans (by rw [hd]; rfl))))
      clear hv hd
      have hltq : q < wr.heap.size := World.block_lt_of_cell? wr _ g0
      go_wp2_with fail
      exact bodyPost_ret (v := .tuple #[.agg #[.int .i64 t, .bool f], .bool true]) (by simp [results, Try.results34, go_sem, r0, r1]) rfl (retWord_of HP.out rfl (by repeat (first | exact Below.refl _ _ | assumption | refine Below.drew ?_ | refine Below.setCell ?_ (by first | (dsimp only; omega) | (simp; omega) | simp) _ | refine Below.alloc ?_ (by first | omega | (simp; omega) | simp) _)))

/-- The program's SymOfWord, for all kinds and words. -/
theorem symOfWord_any (kind : Int) (a : Option Addr) (n cap : Nat) (l : List Int) (w : World) (hl : ReadsI w a n cap l) :
    Calls Try.prog 34 #[.int .i64 kind, .slice a n cap] w (RetWord w ((wT kind l, wF kind l), wOk kind l)) := by
  have hm := hl.2.1
  unfold maxLen at hm
  cases hw : win kind 0 3
  · exact symOfWord_kind kind a n cap w _ (wSym_none (wordSym_bad (.inl hw))) hw
  · by_cases hn : n ≤ 24
    · exact symOfWord_yes kind a n cap l w hl hw hn
    · exact symOfWord_long kind a n cap w _ (wSym_none (wordSym_bad (.inr (.inl (by rw [hl.1]; omega))))) hw (by omega) (by omega)

end Go.Proofs.Ytnpgdijafmkmkaa
