/- Plain facts: how far two parts are from each other is a part, the same from both, and nothing exactly for the same ones. -/
import Derived.Test.YtgafdkaiiajieaaFar
namespace Go.Proofs.Ytgafdkaiiajieaa
open Go.RowKit
open Fl

theorem order_gt {x y : Nat} (hx : fin x) (hy : fin y) : (FloatKind.f32.format.order x y == some .gt) = decide (val y < val x) := by
  show (S.order x y == some .gt) = _
  rw [order_fin hx hy]
  exact cmp_gt
theorem order_lt {x y : Nat} (hx : fin x) (hy : fin y) : (FloatKind.f32.format.order x y == some .lt) = decide (val x < val y) := by
  show (S.order x y == some .lt) = _
  rw [order_fin hx hy]
  exact cmp_lt
theorem order_eq {x y : Nat} (hx : fin x) (hy : fin y) : (FloatKind.f32.format.order x y == some .eq) = decide (val x = val y) := by
  show (S.order x y == some .eq) = _
  rw [order_fin hx hy]
  exact cmp_eq

theorem rung_zero : rung (0 : Int).natAbs (-149) = 0 := by decide

/-- y - x of two parts, x not greater: a part; 0 exactly where both are the same. -/
theorem diff_up {x y : Nat} (hx : part x = true) (hy : part y = true) (h : val x ≤ val y) : part (diffF y x) = true ∧ (val (diffF y x) = 0 ↔ val x = val y) := by
  obtain ⟨x1, x2, _⟩ := part_mv hx
  obtain ⟨y1, y2, _⟩ := part_mv hy
  have hr : rung (val y - val x).natAbs (-149) ≤ rg one := rung_le_of (by rw [rg_one]; omega) (by rw [mv_one]; omega)
  have hs : (if val y - val x = 0 then isNeg y && !isNeg x else decide (val y - val x < 0)) = true → rung (val y - val x).natAbs (-149) = 0 := by
    intro hs
    by_cases h0 : val y - val x = 0
    · rw [h0]; exact rung_zero
    · rw [if_neg h0] at hs
      have := of_decide_eq_true hs
      omega
  refine ⟨part_of hr hs, ?_⟩
  have hf : fin (word (isNeg y && !isNeg x) (val y - val x)) := fin_word' (by rw [rg_one] at hr; omega)
  unfold diffF
  rw [val_cl hf, val_zero_iff hf]
  unfold word
  rw [rg_word (rung_lt _ _)]
  constructor
  · intro hz
    rcases (show val x = val y ∨ val x < val y by omega) with h1 | h1
    · exact h1
    · have := le_rung_of (m := (val y - val x).natAbs) (r := 1) (by omega) (by have : mv 1 = 1 := by decide
                                                                               omega)
      omega
  · intro e
    rw [show val y - val x = 0 by omega]
    exact rung_zero

theorem far_part {x y : Nat} (hx : part x = true) (hy : part y = true) : part (farF x y) = true ∧ (val (farF x y) = 0 ↔ val x = val y) := by
  unfold farF
  rw [order_lt (part_fin hx) (part_fin hy)]
  by_cases h : val x < val y
  · rw [if_pos (decide_eq_true h)]
    exact diff_up hx hy (by omega)
  · rw [if_neg (by rw [decide_eq_false h]; exact Bool.false_ne_true)]
    have := diff_up hy hx (by omega)
    exact ⟨this.1, this.2.trans ⟨Eq.symm, Eq.symm⟩⟩

theorem far_comm {x y : Nat} (hx : part x = true) (hy : part y = true) : farF x y = farF y x := by
  unfold farF
  rw [order_lt (part_fin hx) (part_fin hy), order_lt (part_fin hy) (part_fin hx)]
  rcases (show val x < val y ∨ val x = val y ∨ val y < val x by omega) with h | h | h
  · have h2 : ¬ val y < val x := by omega
    rw [if_pos (decide_eq_true h), if_neg (by rw [decide_eq_false h2]; exact Bool.false_ne_true)]
  · have e : ∀ u v, val u = val v → diffF u v = 0 := by
      intro u v huv
      unfold diffF word
      rw [show val u - val v = 0 by omega]
      cases isNeg u <;> cases isNeg v <;> decide
    rw [if_neg (by rw [decide_eq_false (by omega)]; exact Bool.false_ne_true), if_neg (by rw [decide_eq_false (by omega)]; exact Bool.false_ne_true), e x y h, e y x h.symm]
  · have h2 : ¬ val x < val y := by omega
    rw [if_pos (decide_eq_true h), if_neg (by rw [decide_eq_false h2]; exact Bool.false_ne_true)]

theorem gr_part {a b c : Nat} (ha : part a = true) (hb : part b = true) (hc : part c = true) : part (grF a b c) = true ∧ (val (grF a b c) = 0 ↔ val a = 0 ∧ val b = 0 ∧ val c = 0) := by
  have na := ((part_iff a).1 ha).2.1
  have nb := ((part_iff b).1 hb).2.1
  have nc := ((part_iff c).1 hc).2.1
  unfold grF
  rw [order_gt (part_fin hb) (part_fin ha), order_gt (part_fin hc) (part_fin hb), order_gt (part_fin hc) (part_fin ha)]
  by_cases h1 : val a < val b <;> by_cases h2 : val b < val c <;> by_cases h3 : val a < val c <;> simp only [h1, h2, h3, decide_true, decide_false, Bool.false_eq_true, if_true, if_false] <;>
    first
      | exact ⟨ha, by omega⟩
      | exact ⟨hb, by omega⟩
      | exact ⟨hc, by omega⟩

theorem part_range {d : Nat} (h : part d = true) : (FloatKind.f32.format.order d 0 == some .gt || FloatKind.f32.format.order d 0 == some .eq) = true ∧ (FloatKind.f32.format.order d 1065353216 == some .lt || FloatKind.f32.format.order d 1065353216 == some .eq) = true := by
  unfold part at h
  exact Bool.and_eq_true_iff.1 h

theorem dec_eq_of {p q : Prop} [Decidable p] [Decidable q] (h : p ↔ q) : decide p = decide q := by
  by_cases hp : p
  · rw [decide_eq_true hp, decide_eq_true (h.1 hp)]
  · rw [decide_eq_false hp, decide_eq_false (fun x => hp (h.2 x))]

/-- What FnFar says of the distance of two colours. -/
theorem far_law {r g b r' g' b' : Nat} (h : isCol r g b = true) (h' : isCol r' g' b' = true) :
    farV (isCol r g b && isCol r' g' b') r g b r' g' b' = farV (isCol r' g' b' && isCol r g b) r' g' b' r g b ∧
    part (farV (isCol r g b && isCol r' g' b') r g b r' g' b') = true ∧
    (FloatKind.f32.format.order (farV (isCol r g b && isCol r' g' b') r g b r' g' b') 0 == some .eq) = (FloatKind.f32.format.order r r' == some .eq && FloatKind.f32.format.order g g' == some .eq && FloatKind.f32.format.order b b' == some .eq) := by
  obtain ⟨pr, pg, pb⟩ := isCol_parts h
  obtain ⟨pr', pg', pb'⟩ := isCol_parts h'
  rw [h, h']
  show grF (farF r r') (farF g g') (farF b b') = grF (farF r' r) (farF g' g) (farF b' b) ∧ part (grF (farF r r') (farF g g') (farF b b')) = true ∧ (FloatKind.f32.format.order (grF (farF r r') (farF g g') (farF b b')) 0 == some .eq) = _
  obtain ⟨fr, zr⟩ := far_part pr pr'
  obtain ⟨fg, zg⟩ := far_part pg pg'
  obtain ⟨fb, zb⟩ := far_part pb pb'
  obtain ⟨pp, pz⟩ := gr_part fr fg fb
  refine ⟨by rw [far_comm pr pr', far_comm pg pg', far_comm pb pb'], pp, ?_⟩
  rw [order_eq (part_fin pp) fin_zero, order_eq (part_fin pr) (part_fin pr'), order_eq (part_fin pg) (part_fin pg'), order_eq (part_fin pb) (part_fin pb'), val_zero, ← Bool.decide_and, ← Bool.decide_and]
  exact dec_eq_of (pz.trans ⟨fun ⟨a, b, c⟩ => ⟨⟨zr.1 a, zg.1 b⟩, zb.1 c⟩, fun ⟨⟨a, b⟩, c⟩ => ⟨zr.2 a, zg.2 b, zb.2 c⟩⟩)

theorem part_self {d : Nat} (h : part d = true) : (FloatKind.f32.format.order d d == some .eq) = true := by
  rw [order_eq (part_fin h) (part_fin h)]
  exact decide_eq_true rfl

end Go.Proofs.Ytgafdkaiiajieaa
