/- What the laws' has computes. Condition: the slice reads as a list of at most eight symmetries. -/
import Derived.Test.YtgafdkaiiajieaaEqS2
import Derived.Test.YtgafdkaiiajieaaEqS
namespace Go.Proofs.Ytgafdkaiiajieaa
open Go.RowKit

/-- Is a symmetry in a list? -/
def hasB (l : List (Int × Bool)) (t : Int) (f : Bool) : Bool := l.any fun s => s.1 == t && s.2 == f

theorem hasB_yes {l : List (Int × Bool)} {k : Nat} (h : k < l.length) {t : Int} {f : Bool} (he : (l[k].1 == t && l[k].2 == f) = true) : hasB l t f = true :=
  List.any_eq_true.2 ⟨l[k], List.getElem_mem _, he⟩

theorem hasB_no {l : List (Int × Bool)} {t : Int} {f : Bool} (h : ∀ k, k < l.length → (((l.getD k (0, false)).1 == t && (l.getD k (0, false)).2 == f)) = false) : hasB l t f = false := by
  unfold hasB
  rw [List.any_eq_false]
  intro s hs
  obtain ⟨k, hk, rfl⟩ := List.mem_iff_getElem.1 hs
  have := h k hk
  rw [show l.getD k (0, false) = l[k] by simp [List.getD, List.getElem?_eq_getElem hk]] at this
  rw [this]
  simp

theorem getD_sym {l : List (Int × Bool)} {k : Nat} (h : k < l.length) : l.getD k (0, false) = l[k] := by simp [List.getD, List.getElem?_eq_getElem h]

theorem mem_of_has {l : List (Int × Bool)} {t : Int} {f : Bool} (h : hasB l t f = true) : (t, f) ∈ l := by
  obtain ⟨s, hs, he⟩ := List.any_eq_true.1 h
  simp only [Bool.and_eq_true, beq_iff_eq] at he
  obtain ⟨s1, s2⟩ := s
  obtain ⟨rfl, rfl⟩ := he
  exact hs

theorem has_of_mem {l : List (Int × Bool)} {t : Int} {f : Bool} (h : (t, f) ∈ l) : hasB l t f = true :=
  List.any_eq_true.2 ⟨_, h, by simp⟩

theorem has_any (a : Option Addr) (n cap : Nat) (l : List (Int × Bool)) (t : Int) (f : Bool) (w : World) (h : ReadsS w a n cap l) (hn : n ≤ 8) :
    Calls Try.prog 15 #[.slice a n cap, .agg #[.int .i64 t, .bool f]] w fun e w' => e = .returned (.bool (hasB l t f)) ∧ Below w.heap.size w w' := by
  have HR := hide h
  have HL := hide h.1
  clear h
  have b0 : (w.alloc (.cells #[.int .i64 t, .bool f] 28)).cell? ⟨w.heap.size, 0, none⟩ = some (.int .i64 t) := by go_simp
  have b1 : (w.alloc (.cells #[.int .i64 t, .bool f] 28)).cell? ⟨w.heap.size, 1, none⟩ = some (.bool f) := by go_simp
  have bel : Below w.heap.size w (w.alloc (.cells #[.int .i64 t, .bool f] 28)) := (Below.refl _ _).alloc (Nat.le_refl _) _
  go_enter Try.func15, Try.ntmps15
  go_wp2_with fail
  generalize w.alloc (.cells #[.int .i64 t, .bool f] 28) = wA at b0 b1 bel ⊢
  go_loopw [5] (fun i wr => ∃ k : Nat, k ≤ n ∧ i = .int .i64 k ∧ Hid (∀ j, j < k → ((l.getD j (0, false)).1 == t && (l.getD j (0, false)).2 == f) = false) ∧ Below wA.heap.size wA wr) (fun i _ => n - (intOf i).toNat)
  case atStart => exact ⟨0, Nat.zero_le _, rfl, fun j hj => by omega, Below.refl _ _⟩
  case round =>
    obtain ⟨k, hk, rfl, hno, hbel⟩ := hrel
    have b0 := keepc hbel b0
    have b1 := keepc hbel b1
    have bel2 := belowOf bel hbel
    by_cases hlt : k < n
    · obtain ⟨g, rfl, hg⟩ : ∃ g, a = some ⟨g, 0, none⟩ ∧ ∀ j, j < n * 2 → w.cell? ⟨g, j, none⟩ = (symCells l)[j]? := by
        rcases HR.out.2 with h0 | ⟨g, hg, _, _, hc⟩
        · omega
        · exact ⟨g, hg, hc⟩
      obtain ⟨x0, x1⟩ := ReadsS.at hg HL.out k hlt
      have x0 := keepc bel2 x0
      have x1 := keepc bel2 x1
      have hkl : k < l.length := by rw [HL.out]; exact hlt
      have hnk := hide (getD_sym hkl)
      have hyes := hide (fun e => hasB_yes hkl (t := t) (f := f) e)
      generalize l[k] = s at x0 x1 hnk hyes
      obtain ⟨T, F⟩ := s
      clear hg
      simp only at x0 x1
      cases hq : eqS2 T F t f
      · have hno2 : Hid (∀ j, j < k + 1 → ((l.getD j (0, false)).1 == t && (l.getD j (0, false)).2 == f) = false) := fun j hj => by
          by_cases e : j = k
          · subst e; rw [hnk.out]; exact hq
          · exact hno.out j (by omega)
        clear hno hnk hyes
        go_wp2_with fail
        go_region_held3 (fun w' => w'.cell? ⟨g, k * 2, none⟩ = some (.int .i64 T) ∧ w'.cell? ⟨g, k * 2 + 1, none⟩ = some (.bool F) ∧ w'.cell? ⟨w.heap.size, 0, none⟩ = some (.int .i64 t) ∧ w'.cell? ⟨w.heap.size, 1, none⟩ = some (.bool f))
          (exact ⟨keepc (by repeat (first | exact Below.refl _ _ | assumption | refine Below.drew ?_ | refine Below.setCell ?_ (by first | (dsimp only; omega) | (simp; omega) | simp) _ | refine Below.alloc ?_ (by first | omega | (simp; omega) | simp) _)) x0, keepc (by repeat (first | exact Below.refl _ _ | assumption | refine Below.drew ?_ | refine Below.setCell ?_ (by first | (dsimp only; omega) | (simp; omega) | simp) _ | refine Below.alloc ?_ (by first | omega | (simp; omega) | simp) _)) x1, keepc (by repeat (first | exact Below.refl _ _ | assumption | refine Below.drew ?_ | refine Below.setCell ?_ (by first | (dsimp only; omega) | (simp; omega) | simp) _ | refine Below.alloc ?_ (by first | omega | (simp; omega) | simp) _)) b0, keepc (by repeat (first | exact Below.refl _ _ | assumption | refine Below.drew ?_ | refine Below.setCell ?_ (by first | (dsimp only; omega) | (simp; omega) | simp) _ | refine Below.alloc ?_ (by first | omega | (simp; omega) | simp) _)) b1⟩) (fail)
        go_wp2_with fail
        go_roundw
        case rel => exact ⟨k + 1, by omega, by go_num, hno2, hbel.drew⟩
        case measure => simp [intOf]; omega
      · have HY := hide (hyes.out hq)
        clear hno hnk hyes
        go_wp2_with fail
        go_region_held3 (fun w' => w'.cell? ⟨g, k * 2, none⟩ = some (.int .i64 T) ∧ w'.cell? ⟨g, k * 2 + 1, none⟩ = some (.bool F) ∧ w'.cell? ⟨w.heap.size, 0, none⟩ = some (.int .i64 t) ∧ w'.cell? ⟨w.heap.size, 1, none⟩ = some (.bool f))
          (exact ⟨keepc (by repeat (first | exact Below.refl _ _ | assumption | refine Below.drew ?_ | refine Below.setCell ?_ (by first | (dsimp only; omega) | (simp; omega) | simp) _ | refine Below.alloc ?_ (by first | omega | (simp; omega) | simp) _)) x0, keepc (by repeat (first | exact Below.refl _ _ | assumption | refine Below.drew ?_ | refine Below.setCell ?_ (by first | (dsimp only; omega) | (simp; omega) | simp) _ | refine Below.alloc ?_ (by first | omega | (simp; omega) | simp) _)) x1, keepc (by repeat (first | exact Below.refl _ _ | assumption | refine Below.drew ?_ | refine Below.setCell ?_ (by first | (dsimp only; omega) | (simp; omega) | simp) _ | refine Below.alloc ?_ (by first | omega | (simp; omega) | simp) _)) b0, keepc (by repeat (first | exact Below.refl _ _ | assumption | refine Below.drew ?_ | refine Below.setCell ?_ (by first | (dsimp only; omega) | (simp; omega) | simp) _ | refine Below.alloc ?_ (by first | omega | (simp; omega) | simp) _)) b1⟩) (fail)
        go_wp2_with fail
        go_ret
        exact ⟨by rw [HY.out]; rfl, bel2.drew⟩
    · obtain rfl : k = n := by omega
      have HN := hide (hasB_no (l := l) (t := t) (f := f) (fun j hj => hno.out j (by rw [HL.out] at hj; exact hj)))
      go_wp2_with fail
      go_ret
      exact ⟨by rw [HN.out]; rfl, bel2⟩

end Go.Proofs.Ytgafdkaiiajieaa
