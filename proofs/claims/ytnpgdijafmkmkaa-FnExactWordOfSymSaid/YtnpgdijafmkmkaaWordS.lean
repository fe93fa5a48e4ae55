/- What the reference's SymOfWord computes. For all kinds and words. -/
import Derived.Test.YtnpgdijafmkmkaaWordR
import Derived.Deep.RegionHeld3
import Derived.RegionTactic
import Derived.BigRegion
namespace Go.Proofs.Ytnpgdijafmkmkaa
open Go.RowKit

theorem l1ThenB (t t' : Int) (f f' : Bool) (w : World) (hv : win t 0 3 = true) (hv' : win t' 0 3 = true) :
    Calls Try.prog 47 #[.agg #[.int .i64 t, .bool f], .agg #[.int .i64 t', .bool f']] w fun e w' => e = .returned (.agg #[.int .i64 (thT t t' f'), .bool (thF t f t' f')]) ∧ Below w.heap.size w w' :=
  (l1Then_any t t' f f' w hv hv').mono fun _ _ ⟨he, hw⟩ => ⟨he, by rw [← hw]; exact (by repeat (first | exact Below.refl _ _ | assumption | refine Below.drew ?_ | refine Below.alloc ?_ (by first | omega | (simp; omega) | simp) _))⟩

/-- The result of a word, as l1Word has it. -/
def RetWord (w : World) (g : (Int × Bool) × Bool) (e : Ending) (w' : World) : Prop :=
  e = .returned (.tuple #[.agg #[.int .i64 g.1.1, .bool g.1.2], .bool g.2]) ∧ Below w.heap.size w w'

theorem retWord_of {w w' : World} {g : (Int × Bool) × Bool} {e : Ending} {t : Int} {f ok : Bool} (h : g = ((t, f), ok)) (he : e = .returned (.tuple #[.agg #[.int .i64 t, .bool f], .bool ok])) (hb : Below w.heap.size w w') : RetWord w g e w' := by
  subst h
  exact ⟨he, hb⟩

set_option maxHeartbeats 4000000 in
theorem l1Word_any (kind : Int) (a : Option Addr) (n cap : Nat) (l : List Int) (w : World) (hl : ReadsI w a n cap l) :
    Calls Try.prog 51 #[.int .i64 kind, .slice a n cap] w (RetWord w (l1W kind l)) := by
  have hm := hl.2.1
  unfold maxLen at hm
  have hlen := hl.1
  have HL := hide hl
  have HLEN := hide hlen
  clear hl hlen
  go_enter Try.func51, Try.ntmps51
  go_wp2_with fail
  have hinv : WInv w kind l w.heap.size (w.heap.size + 1) 0 0 false ((w.alloc (.cells #[.int .i64 0, .bool false] 26)).alloc (.cells #[.int .i64 0, .bool false] 26)) :=
    ⟨by go_simp, by go_simp, by go_simp, by go_simp, fun j => by go_simp, fun j => by go_simp, rfl, by decide, ((Below.refl _ _).alloc (Nat.le_refl _) _).alloc (by simp) _⟩
  go_loopw [14] (fun i wr => ∃ (k : Nat) (t : Int) (f : Bool), k ≤ n ∧ i = .int .i64 k ∧ WInv w kind l w.heap.size (w.heap.size + 1) k t f wr) (fun i _ => n - (intOf i).toNat)
  case atStart => exact ⟨0, 0, false, Nat.zero_le _, rfl, hinv⟩
  case round =>
    clear hinv
    obtain ⟨k, t, f, hk, rfl, hv⟩ := hrel
    have g0 := hv.g0
    have g1 := hv.g1
    have r0 := hv.r0
    have r1 := hv.r1
    have gf := hv.gf
    have rf := hv.rf
    have bel := hv.bel
    have kr : w.heap.size ≤ w.heap.size := Nat.le_refl _
    have kq : w.heap.size ≤ w.heap.size + 1 := by omega
    have hlt1 : w.heap.size + 1 < wr.heap.size := World.block_lt_of_cell? wr _ g0
    by_cases hlt : k < n
    · obtain ⟨b, off, rfl, hc⟩ := HL.out.at hlt
      have hc := keepc bel hc
      have HD := hide (drop_at (l := l) (k := k) (by rw [HLEN.out]; exact hlt))
      generalize l.getD k 0 = z at hc HD
      have HM := hide (l1Mirror_any kind z)
      cases hmir : mir kind z with
      | none =>
        obtain ⟨m1, m2, m3⟩ := mir_no hmir
        rw [m1, m2, m3] at HM
        have HP := hide (l1W_none (hv.val.trans (by rw [HD.out]; exact wordFrom_none hmir)))
        clear m1 m2 m3 hv hmir HD
        go_wp2_with fail
        refine (HM.out _).mono ?_
        rintro e w2 ⟨rfl, hb2⟩
        have r0 := keepc hb2 r0
        have r1 := keepc hb2 r1
        have rf := fun j => (hb2.frozen (p := ⟨w.heap.size, j, none⟩) (show w.heap.size < _ by omega)).trans (rf j)
        have bel := belowOf bel hb2
        have hs2 := hb2.size
        have hltB : w.heap.size < w2.heap.size := by omega
        clear hb2 g0 g1 gf hc
        go_wp2_with fail
        exact bodyPost_ret (v := .tuple #[.agg #[.int .i64 0, .bool false], .bool false]) (by simp [results, Try.results51, go_sem, r0, r1, hltB]) rfl (retWord_of HP.out rfl (by repeat (first | exact Below.refl _ _ | assumption | refine Below.drew ?_ | refine Below.setCell ?_ (by first | (dsimp only; omega) | (simp; omega) | simp) _ | refine Below.alloc ?_ (by first | omega | (simp; omega) | simp) _)))
      | some h =>
        obtain ⟨t', f'⟩ := h
        obtain ⟨m1, m2, m3⟩ := mir_yes hmir
        rw [m1, m2, m3] at HM
        have hw' := mir_win hmir
        have HT := hide (fun W => l1ThenB t t' f f' W hv.ok hw')
        have HS := hide (show wordFrom kind (t, f) (l.drop k) = wordFrom kind (thT t t' f', thF t f t' f') (l.drop (k + 1)) by rw [HD.out]; exact wordFrom_some hmir)
        have HW := hide (win_th t t' f')
        generalize thT t t' f' = T at HT HS HW
        generalize thF t f t' f' = F at HT HS
        clear m1 m2 m3 hmir HD hw'
        have HV := hide hv
        clear hv
        go_wp2_with fail
        refine (HM.out _).mono ?_
        rintro e w2 ⟨rfl, hb2⟩
        have g0 := keepc hb2 g0
        have g1 := keepc hb2 g1
        have gf := fun j => (hb2.frozen (p := ⟨w.heap.size + 1, j, none⟩) hlt1).trans (gf j)
        have hv2 := HV.out.below hb2
        have HV := hide hv2
        have hs2 := hb2.size
        have hltQ : w.heap.size + 1 < w2.heap.size := by omega
        clear hb2 hv2 hc r0 r1 rf
        go_wp2_with fail
        have nb : Below w2.heap.size w2 (w2.alloc (.cells #[.int .i64 t', .bool f'] 26)) := (Below.refl _ _).alloc (Nat.le_refl _) _
        have hv3 := HV.out.below nb
        have g0 := keepc nb g0
        have g1 := keepc nb g1
        have gf := fun j => (nb.frozen (p := ⟨w.heap.size + 1, j, none⟩) (show w.heap.size + 1 < _ by omega)).trans (gf j)
        generalize w2.alloc (.cells #[.int .i64 t', .bool f'] 26) = w3 at g0 g1 gf hv3 ⊢
        have HV := hide hv3
        clear nb hv3
        refine (HT.out _).mono ?_
        rintro e w4 ⟨rfl, hb4⟩
        have g0 := keepc hb4 g0
        have g1 := keepc hb4 g1
        have gf := fun j => (hb4.frozen (p := ⟨w.heap.size + 1, j, none⟩) (show w.heap.size + 1 < _ from World.block_lt_of_cell? w3 _ HV.out.g0)).trans (gf j)
        have hv4 := HV.out.below hb4
        have hn := hv4.step (by omega) (by omega) HS.out HW.out
        clear hb4 hv4
        go_wp2_with fail
        go_roundw
        case rel => exact ⟨k + 1, T, F, by omega, by go_num, hn⟩
        case measure => simp [intOf]; omega
    · obtain rfl : k = n := by omega
      have hd : l.drop k = [] := List.drop_eq_nil_of_le (by rw [HLEN.out]; exact Nat.le_refl _)
      have HP := hide (l1W_some (hv.val.trans (by rw [hd]; rfl)))
      clear hv hd
      by_cases h24 : k ≤ 24
      · have hX : (decide (l.length ≤ 24) && win kind 0 3) = win kind 0 3 := by rw [HLEN.out]; simp [h24]
        rw [hX] at HP
        clear hX
        have hI : (k : Int) ≤ 24 := by omega
        have hB : decide ((k : Int) ≤ 24) = true := decide_eq_true hI
        go_wp2_with fail
        go_region_held3 (fun w' => w'.cell? ⟨w.heap.size + 1, 0, none⟩ = some (.int .i64 t) ∧ w'.cell? ⟨w.heap.size + 1, 1, none⟩ = some (.bool f))
          (first | exact ⟨g0, g1⟩ | (refine ⟨?_, ?_⟩ <;> (go_simp; done)))
          (first | (go_at_call 45; refine (l1In_any _ _ _ _).mono ?_; rintro e w' ⟨rfl, rfl⟩))
        go_wp2_with fail
        exact bodyPost_ret (v := .tuple #[.agg #[.int .i64 t, .bool f], .bool (win kind 0 3)]) (by simp [results, Try.results51, go_sem, r0, r1]) rfl (retWord_of HP.out rfl (by repeat (first | exact Below.refl _ _ | assumption | refine Below.drew ?_ | refine Below.setCell ?_ (by first | (dsimp only; omega) | (simp; omega) | simp) _ | refine Below.alloc ?_ (by first | omega | (simp; omega) | simp) _)))
      · have hX : (decide (l.length ≤ 24) && win kind 0 3) = false := by rw [HLEN.out]; simp [h24]
        rw [hX] at HP
        clear hX
        have hI : ¬ (k : Int) ≤ 24 := by omega
        have hB : decide ((k : Int) ≤ 24) = false := decide_eq_false hI
        go_wp2_with fail
        go_region
        go_wp2_with fail
        exact bodyPost_ret (v := .tuple #[.agg #[.int .i64 t, .bool f], .bool false]) (by simp [results, Try.results51, go_sem, r0, r1]) rfl (retWord_of HP.out rfl (by repeat (first | exact Below.refl _ _ | assumption | refine Below.drew ?_ | refine Below.setCell ?_ (by first | (dsimp only; omega) | (simp; omega) | simp) _ | refine Below.alloc ?_ (by first | omega | (simp; omega) | simp) _)))

theorem wSym_none {kind : Int} {l : List Int} (h : wordSym kind l = none) : ((wT kind l, wF kind l), wOk kind l) = ((0, false), false) := by
  obtain ⟨h1, h2, h3⟩ := word_no h
  rw [h1, h2, h3]

theorem wSym_some {kind : Int} {l : List Int} {t : Int} {f : Bool} (h : wordSym kind l = some (t, f)) : ((wT kind l, wF kind l), wOk kind l) = ((t, f), true) := by
  obtain ⟨h1, h2, h3⟩ := word_yes h
  rw [h1, h2, h3]

set_option maxHeartbeats 2000000 in
theorem sSymOfWord_any (kind : Int) (a : Option Addr) (n cap : Nat) (l : List Int) (w : World) (hl : ReadsI w a n cap l) :
    Calls Try.prog 32 #[.int .i64 kind, .slice a n cap] w (RetWord w ((wT kind l, wF kind l), wOk kind l)) := by
  have HL := hide hl
  clear hl
  obtain ⟨⟨⟨t, f⟩, ok⟩, hq⟩ : ∃ q, l1W kind l = q := ⟨_, rfl⟩
  have hs := wordSym_l1W kind l
  have HW := hide (fun W (h : ReadsI W a n cap l) => l1Word_any kind a n cap l W h)
  rw [hq] at HW hs
  have r0 : (w.alloc (.cells #[.int .i64 0, .bool false] 26)).cell? ⟨w.heap.size, 0, none⟩ = some (.int .i64 0) := by go_simp
  have r1 : (w.alloc (.cells #[.int .i64 0, .bool false] 26)).cell? ⟨w.heap.size, 1, none⟩ = some (.bool false) := by go_simp
  have rf : ∀ j, (w.alloc (.cells #[.int .i64 0, .bool false] 26)).frozen? ⟨w.heap.size, j, none⟩ = false := fun j => by go_simp
  have nb : Below w.heap.size w (w.alloc (.cells #[.int .i64 0, .bool false] 26)) := (Below.refl _ _).alloc (Nat.le_refl _) _
  have kr : w.heap.size ≤ w.heap.size := Nat.le_refl _
  cases ok
  · have HP := hide (wSym_none (kind := kind) (l := l) hs)
    clear hs hq
    go_enter Try.func32, Try.ntmps32
    go_wp2_with fail
    have HL2 := hide (HL.out.below nb)
    generalize w.alloc (.cells #[.int .i64 0, .bool false] 26) = wA at r0 r1 rf nb HL2 ⊢
    refine (HW.out _ HL2.out).mono ?_
    rintro e w1 ⟨rfl, hb1⟩
    have r0 := keepc hb1 r0
    have r1 := keepc hb1 r1
    have rf := fun j => (hb1.frozen (p := ⟨w.heap.size, j, none⟩) (show w.heap.size < _ from World.block_lt_of_cell? wA _ (by assumption))).trans (rf j)
    have bel := belowOf nb hb1
    have hlt1 : w.heap.size < w1.heap.size := World.block_lt_of_cell? w1 _ r0
    clear hb1 nb
    go_wp2_with fail
    exact bodyPost_ret (v := .tuple #[.agg #[.int .i64 0, .bool false], .bool false]) (by simp [results, Try.results32, go_sem, r0, r1, hlt1]) rfl (retWord_of HP.out rfl (by repeat (first | exact Below.refl _ _ | assumption | refine Below.drew ?_ | refine Below.setCell ?_ (by first | (dsimp only; omega) | (simp; omega) | simp) _ | refine Below.alloc ?_ (by first | omega | (simp; omega) | simp) _)))
  · have HP := hide (wSym_some (kind := kind) (l := l) hs)
    clear hs hq
    go_enter Try.func32, Try.ntmps32
    go_wp2_with fail
    have HL2 := hide (HL.out.below nb)
    generalize w.alloc (.cells #[.int .i64 0, .bool false] 26) = wA at r0 r1 rf nb HL2 ⊢
    refine (HW.out _ HL2.out).mono ?_
    rintro e w1 ⟨rfl, hb1⟩
    have r0 := keepc hb1 r0
    have r1 := keepc hb1 r1
    have rf := fun j => (hb1.frozen (p := ⟨w.heap.size, j, none⟩) (show w.heap.size < _ from World.block_lt_of_cell? wA _ (by assumption))).trans (rf j)
    have bel := belowOf nb hb1
    have hlt1 : w.heap.size < w1.heap.size := World.block_lt_of_cell? w1 _ r0
    clear hb1 nb
    go_wp2_with fail
    exact bodyPost_ret (v := .tuple #[.agg #[.int .i64 t, .bool f], .bool true]) (by simp [results, Try.results32, go_sem, r0, r1, hlt1]) rfl (retWord_of HP.out rfl (by repeat (first | exact Below.refl _ _ | assumption | refine Below.drew ?_ | refine Below.setCell ?_ (by first | (dsimp only; omega) | (simp; omega) | simp) _ | refine Below.alloc ?_ (by first | omega | (simp; omega) | simp) _)))

end Go.Proofs.Ytnpgdijafmkmkaa
