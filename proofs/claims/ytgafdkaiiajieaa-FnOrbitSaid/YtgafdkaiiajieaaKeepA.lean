/- What KeepersOf's closure and slices.IndexFunc with it compute. Condition: a point, symmetries with turns from 0 to 3. -/
import Derived.Test.YtgafdkaiiajieaaOrbI
namespace Go.Proofs.Ytgafdkaiiajieaa
open Go.RowKit Go.Sort
open Fl

/-- Whether a symmetry keeps a point. -/
def kpB (x y : Nat) (s : Int × Bool) : Bool := eqZ (actW s.1 s.2 x y) (x, y)

set_option maxHeartbeats 1000000 in
theorem keepC_any (t : Int) (f : Bool) (x y b : Nat) (w : World) (hv : win t 0 3 = true) (hp : Pt x y) (hc : w.cell? ⟨b, 0, none⟩ = some (.complex .f32 x y)) :
    Calls Try.prog 51 #[.agg #[.int .i64 t, .bool f], .pointer (some ⟨b, 0, none⟩)] w fun e w' => e = .returned (.bool (!kpB x y (t, f))) ∧ Below w.heap.size w w' := by
  have A := hide (fun W => actSym_y t f x y W hv hp)
  have HK : Hid (kpB x y (t, f) = (FloatKind.f32.format.order (actW t f x y).1 x == some .eq && FloatKind.f32.format.order (actW t f x y).2 y == some .eq)) := rfl
  generalize kpB x y (t, f) = K at HK ⊢
  generalize actW t f x y = P at A HK
  obtain ⟨px, py⟩ := P
  clear hv hp
  replace A : Hid (∀ W, Calls Try.prog 17 #[.agg #[.int .i64 t, .bool f], .complex .f32 x y] W fun e w' => e = .returned (.complex .f32 px py) ∧ Below W.heap.size W w') := A
  replace HK : Hid (K = (FloatKind.f32.format.order px x == some .eq && FloatKind.f32.format.order py y == some .eq)) := HK
  have nb : Below w.heap.size w (w.alloc (.cells #[.int .i64 t, .bool f] 28)) := (Below.refl _ _).alloc (Nat.le_refl _) _
  have g0 : (w.alloc (.cells #[.int .i64 t, .bool f] 28)).cell? ⟨w.heap.size, 0, none⟩ = some (.int .i64 t) := by go_simp
  have g1 : (w.alloc (.cells #[.int .i64 t, .bool f] 28)).cell? ⟨w.heap.size, 1, none⟩ = some (.bool f) := by go_simp
  have c0 := keepc nb hc
  clear hc
  cases h1 : (FloatKind.f32.format.order px x == some .eq) <;> cases h2 : (FloatKind.f32.format.order py y == some .eq)
  all_goals
    rw [h1, h2] at HK
    go_enter Try.func51, Try.ntmps51
    go_upto_region 1 with fail
    generalize w.alloc (.cells #[.int .i64 t, .bool f] 28) = wA at nb g0 g1 c0 ⊢
    go_region_held3 (fun w' => w'.cell? ⟨w.heap.size, 0, none⟩ = some (.int .i64 t) ∧ w'.cell? ⟨w.heap.size, 1, none⟩ = some (.bool f) ∧ w'.cell? ⟨b, 0, none⟩ = some (.complex .f32 x y))
      ((refine (show Below wA.heap.size wA _ → _ from fun hk => ⟨keepc hk g0, keepc hk g1, keepc hk c0⟩) ?_; first | (with_reducible exact Below.refl _ _) | (with_reducible exact (Below.refl _ _).drew) | (with_reducible exact bw1) | (with_reducible exact bw1.drew)))
      (first | (go_at_call 17; (with_reducible refine (A.out _).mono ?_); rintro e w1 ⟨rfl, hb1⟩; have bw1 := belowOf (w := wA) (by first | (with_reducible exact Below.refl _ _) | (with_reducible exact (Below.refl _ _).drew) | (with_reducible exact ((Below.refl _ _).alloc (Nat.le_refl _) _)) | (with_reducible exact ((Below.refl _ _).alloc (Nat.le_refl _) _).drew) | (with_reducible exact ((Below.refl _ _).drew.alloc (Nat.le_refl _) _))) hb1; clear hb1))
    all_goals
      go_wp2_with fail
      go_ret
      exact ⟨by rw [HK.out]; rfl, belowOf nb bw1⟩

/-- The first symmetry that does not keep the point. -/
def FirstNot (p : Int × Bool → Bool) (l : List (Int × Bool)) (q : Int) : Prop :=
  (q = -1 ∧ ∀ j, j < l.length → p (l.getD j (0, false)) = true) ∨ ∃ i : Nat, i < l.length ∧ q = (i : Int) ∧ (∀ j, j < i → p (l.getD j (0, false)) = true) ∧ p (l.getD i (0, false)) = false

set_option maxRecDepth 100000 in
set_option maxHeartbeats 2000000 in
theorem indexK_any (a : Option Addr) (n cap : Nat) (l : List (Int × Bool)) (x y b : Nat) (w : World) (h : ReadsS w a n cap l) (hn : n ≤ 8) (hv : ∀ s ∈ l, win s.1 0 3 = true) (hp : Pt x y) (hc : w.cell? ⟨b, 0, none⟩ = some (.complex .f32 x y)) :
    Calls Try.prog 79 #[.slice a n cap, .func (.func 51) #[] #[.pointer (some ⟨b, 0, none⟩)]] w
      fun e w' => (∃ q : Int, e = .returned (.int .i64 q) ∧ FirstNot (kpB x y) l q) ∧ Below w.heap.size w w' := by
  have HR := hide h
  have HL := hide h.1
  have KC := hide (fun s (hs : s ∈ l) W (hW : W.cell? ⟨b, 0, none⟩ = some (.complex .f32 x y)) => keepC_any s.1 s.2 x y b W (hv s hs) hp hW)
  clear h hv hp
  generalize kpB x y = p at KC ⊢
  go_enter Try.func79, Try.ntmps79
  go_wp2_with fail
  go_loopw [8] (fun i wr => ∃ k : Nat, k ≤ n ∧ i = .int .i64 k ∧ Hid (∀ j, j < k → p (l.getD j (0, false)) = true) ∧ Below w.heap.size w wr) (fun i _ => n - (intOf i).toNat)
  case atStart => exact ⟨0, Nat.zero_le _, rfl, fun j hj => by omega, Below.refl _ _⟩
  case round =>
    obtain ⟨k, hk, rfl, hno, bel⟩ := hrel
    have c0 := keepc bel hc
    by_cases hlt : k < n
    · obtain ⟨g, rfl, hg⟩ : ∃ g, a = some ⟨g, 0, none⟩ ∧ ∀ j, j < n * 2 → w.cell? ⟨g, j, none⟩ = (symCells l)[j]? := by
        rcases HR.out.2 with h0 | ⟨g, hg, _, _, hc⟩
        · omega
        · exact ⟨g, hg, hc⟩
      obtain ⟨x0, x1⟩ := ReadsS.at hg HL.out k hlt
      have x0 := keepc bel x0
      have x1 := keepc bel x1
      have hkl : k < l.length := by rw [HL.out]; exact hlt
      have hgd : l.getD k (0, false) = l[k] := by simp [List.getD, List.getElem?_eq_getElem hkl]
      have HK := hide (KC.out l[k] (List.getElem_mem hkl))
      have hyes := hide (fun (e : p l[k] = true) j (hj : j < k + 1) => show p (l.getD j (0, false)) = true from by
        by_cases e' : j = k
        · subst e'; rw [hgd]; exact e
        · exact hno.out j (by omega))
      have hend := hide (fun (e : p l[k] = false) => show FirstNot p l (k : Int) from .inr ⟨k, hkl, rfl, hno.out, by rw [hgd]; exact e⟩)
      generalize l[k] = s at x0 x1 HK hyes hend
      obtain ⟨T, F⟩ := s
      clear hg hno hgd
      simp only at x0 x1
      replace HK : Hid (∀ W, W.cell? ⟨b, 0, none⟩ = some (.complex .f32 x y) → Calls Try.prog 51 #[.agg #[.int .i64 T, .bool F], .pointer (some ⟨b, 0, none⟩)] W fun e w' => e = .returned (.bool (!p (T, F))) ∧ Below W.heap.size W w') := HK
      obtain ⟨bb, hbb⟩ : ∃ bb, p (T, F) = bb := ⟨_, rfl⟩
      rw [hbb] at HK
      cases bb
      · have HE := hide (hend.out hbb)
        clear hyes hend hbb
        go_wp2_with fail
        refine (HK.out _ c0).mono ?_
        rintro e w1 ⟨rfl, hb1⟩
        have bel := belowOf bel hb1
        clear hb1 x0 x1
        go_wp2_with fail
        go_ret
        exact ⟨⟨(k : Int), rfl, HE.out⟩, bel⟩
      · have HY := hide (hyes.out hbb)
        clear hyes hend hbb
        go_wp2_with fail
        refine (HK.out _ c0).mono ?_
        rintro e w1 ⟨rfl, hb1⟩
        have bel := belowOf bel hb1
        clear hb1 x0 x1
        go_wp2_with fail
        go_roundw
        case rel => exact ⟨k + 1, by omega, by go_num, HY, bel⟩
        case measure => simp [intOf]; omega
    · obtain rfl : k = n := by omega
      have HE := hide (show FirstNot p l (-1) from .inl ⟨rfl, fun j hj => hno.out j (by rw [HL.out] at hj; exact hj)⟩)
      go_wp2_with fail
      go_ret
      exact ⟨⟨-1, rfl, HE.out⟩, bel⟩

end Go.Proofs.Ytgafdkaiiajieaa
