/- Plain: sides are turned with all three points and change their sign with a mirror; whether a point lies in a shard stays. Condition: points, a symmetry. -/
import Derived.Test.YtgafdkaiiajieaaGlassF
namespace Go.Proofs.Ytgafdkaiiajieaa
open Go.RowKit
open Fl

theorem neg_fin {x : Nat} (h : x < 4294967296) (hf : fin x) : fin (Op.negFloat .f32 x) ∧ val (Op.negFloat .f32 x) = - val x := by
  have e : Op.negFloat .f32 x = x ^^^ 2 ^ 31 := rfl
  have hx : x ^^^ 2 ^ 31 = if x < 2147483648 then x + 2147483648 else x - 2147483648 := by
    have key : ∀ y : Nat, y < 2 ^ 31 → y ^^^ 2 ^ 31 = y + 2 ^ 31 := by
      intro y hy
      have h1 : 2 ^ 31 ^^^ y = 2 ^ 31 + y := by
        have := Nat.two_pow_add_eq_or_of_lt hy 1
        rw [Nat.mul_one] at this
        rw [this]
        apply Nat.eq_of_testBit_eq
        intro i
        rw [Nat.testBit_xor, Nat.testBit_or]
        by_cases hi : i = 31
        · subst hi
          have : y.testBit 31 = false := Nat.testBit_lt_two_pow hy
          rw [this]; simp
        · have : (2 ^ 31).testBit i = false := by rw [Nat.testBit_two_pow]; simp; omega
          rw [this]; simp
      rw [Nat.xor_comm, h1]; omega
    by_cases hlt : x < 2147483648
    · rw [if_pos hlt, key x (by omega)]
    · rw [if_neg hlt]
      have h2 := key (x - 2147483648) (by omega)
      have h3 : x = (x - 2147483648) ^^^ 2 ^ 31 := by rw [h2]; omega
      conv => lhs; rw [h3]
      rw [Nat.xor_assoc, Nat.xor_self, Nat.xor_zero]
  rw [e, hx]
  unfold fin rg at hf ⊢
  unfold val isNeg rg
  by_cases hlt : x < 2147483648
  · rw [if_pos hlt]
    have e1 : (x + 2147483648) % 2147483648 = x % 2147483648 := by omega
    have e2 : (x + 2147483648) / 2147483648 % 2 = 1 := by omega
    have e3 : x / 2147483648 % 2 = 0 := by omega
    rw [e1, e2, e3]
    exact ⟨hf, by simp⟩
  · rw [if_neg hlt]
    have e1 : (x - 2147483648) % 2147483648 = x % 2147483648 := by omega
    have e2 : (x - 2147483648) / 2147483648 % 2 = 0 := by omega
    have e3 : x / 2147483648 % 2 = 1 := by omega
    rw [e1, e2, e3]
    exact ⟨hf, by simp⟩

theorem sideI_turns : ∀ (n : Nat) (ax ay bx b_y px py : Int), sideI (turnsI n (ax, ay)).1 (turnsI n (ax, ay)).2 (turnsI n (bx, b_y)).1 (turnsI n (bx, b_y)).2 (turnsI n (px, py)).1 (turnsI n (px, py)).2 = sideI ax ay bx b_y px py
  | 0, _, _, _, _, _, _ => rfl
  | n + 1, ax, ay, bx, b_y, px, py => by
    show sideI (turnsI n (-ay, ax)).1 (turnsI n (-ay, ax)).2 (turnsI n (-b_y, bx)).1 (turnsI n (-b_y, bx)).2 (turnsI n (-py, px)).1 (turnsI n (-py, px)).2 = _
    rw [sideI_turns n (-ay) ax (-b_y) bx (-py) px, sideI_turn]

theorem sideI_act (t : Int) (f : Bool) (ax ay bx b_y px py : Int) : sideI (actI t f (ax, ay)).1 (actI t f (ax, ay)).2 (actI t f (bx, b_y)).1 (actI t f (bx, b_y)).2 (actI t f (px, py)).1 (actI t f (px, py)).2 = if f then - sideI ax ay bx b_y px py else sideI ax ay bx b_y px py := by
  unfold actI
  rw [sideI_turns]
  cases f
  · rfl
  · exact sideI_flip ax ay bx b_y px py

/-- The side of three points that are acted on. -/
theorem side_act (t : Int) (f : Bool) {ax ay bx b_y px py : Nat} (ha : Pt ax ay) (hb : Pt bx b_y) (hp : Pt px py) :
    val (sideW (actW t f ax ay).1 (actW t f ax ay).2 (actW t f bx b_y).1 (actW t f bx b_y).2 (actW t f px py).1 (actW t f px py).2) = if f then - val (sideW ax ay bx b_y px py) else val (sideW ax ay bx b_y px py) := by
  obtain ⟨a1, a2⟩ := act_ok t f ha
  obtain ⟨b1, b2⟩ := act_ok t f hb
  obtain ⟨p1, p2⟩ := act_ok t f hp
  have K := (side_ok a1.pt.rx a1.pt.ry b1.pt.rx b1.pt.ry p1.pt.rx p1.pt.ry).val
  have L := (side_ok ha.rx ha.ry hb.rx hb.ry hp.rx hp.ry).val
  have ea := Prod.mk.inj a2
  have eb := Prod.mk.inj b2
  have ep := Prod.mk.inj p2
  rw [K, L, ea.1, ea.2, eb.1, eb.2, ep.1, ep.2]
  exact sideI_act t f _ _ _ _ _ _

theorem side_fin {ax ay bx b_y px py : Nat} (ha : Pt ax ay) (hb : Pt bx b_y) (hp : Pt px py) : Can (sideW ax ay bx b_y px py) := (side_ok ha.rx ha.ry hb.rx hb.ry hp.rx hp.ry).can

theorem ge0_val {x : Nat} (h : fin x) : ge0 x = decide (0 ≤ val x) := by
  unfold ge0
  show (S.order x 0 == some .gt || S.order x 0 == some .eq) = _
  rw [order_fin h fin_zero, cmp_ge, val_zero]

theorem le0_val {x : Nat} (h : fin x) : le0 x = decide (val x ≤ 0) := by
  unfold le0
  show (S.order x 0 == some .lt || S.order x 0 == some .eq) = _
  rw [order_fin h fin_zero, cmp_le, val_zero]

/-- A point lies in a shard just where it does behind a symmetry. -/
theorem lies_act (t : Int) (f : Bool) {s : Shd} {px py : Nat} (hs : ShOk s) (hp : Pt px py) : liesW (actS t f s) (actW t f px py).1 (actW t f px py).2 = liesW s px py := by
  have e1 := side_act t f hs.pa hs.pb hp
  have e2 := side_act t f hs.pb hs.pc hp
  have e3 := side_act t f hs.pc hs.pa hp
  have p1 := (act_ok t f hp).1.pt
  have hs' := actS_ok t f hs
  have f1 := (side_fin hs'.pa hs'.pb p1).fin
  have f2 := (side_fin hs'.pb hs'.pc p1).fin
  have f3 := (side_fin hs'.pc hs'.pa p1).fin
  have g1 := (side_fin hs.pa hs.pb hp).fin
  have g2 := (side_fin hs.pb hs.pc hp).fin
  have g3 := (side_fin hs.pc hs.pa hp).fin
  unfold liesW inB
  rw [ge0_val f1, ge0_val f2, ge0_val f3, le0_val f1, le0_val f2, le0_val f3, ge0_val g1, ge0_val g2, ge0_val g3, le0_val g1, le0_val g2, le0_val g3]
  unfold actS
  simp only
  rw [e1, e2, e3]
  cases f
  · rfl
  · simp only [if_true]
    generalize val (sideW s.ax s.ay s.bx s.b_y px py) = X
    generalize val (sideW s.bx s.b_y s.cx s.cy px py) = Y
    generalize val (sideW s.cx s.cy s.ax s.ay px py) = Z
    have h1 : decide (0 ≤ -X) = decide (X ≤ 0) := by simp; 
    have h2 : decide (0 ≤ -Y) = decide (Y ≤ 0) := by simp; 
    have h3 : decide (0 ≤ -Z) = decide (Z ≤ 0) := by simp; 
    have h4 : decide (-X ≤ 0) = decide (0 ≤ X) := by simp; 
    have h5 : decide (-Y ≤ 0) = decide (0 ≤ Y) := by simp; 
    have h6 : decide (-Z ≤ 0) = decide (0 ≤ Z) := by simp; 
    rw [h1, h2, h3, h4, h5, h6, Bool.or_comm]

/-- The sides that the law compares are the same. -/
theorem side_same {ax ay bx b_y px py : Nat} (t : Int) (ha : Pt ax ay) (hb : Pt bx b_y) (hp : Pt px py) :
    FloatKind.f32.format.order (sideW (actW t false ax ay).1 (actW t false ax ay).2 (actW t false bx b_y).1 (actW t false bx b_y).2 (actW t false px py).1 (actW t false px py).2) (sideW ax ay bx b_y px py) = some .eq :=
  order_self (side_fin (act_ok t false ha).1.pt (act_ok t false hb).1.pt (act_ok t false hp).1.pt).fin (side_fin ha hb hp).fin (by rw [side_act t false ha hb hp]; rfl)

theorem side_neg {ax ay bx b_y px py : Nat} (t : Int) (ha : Pt ax ay) (hb : Pt bx b_y) (hp : Pt px py) :
    FloatKind.f32.format.order (sideW (actW t true ax ay).1 (actW t true ax ay).2 (actW t true bx b_y).1 (actW t true bx b_y).2 (actW t true px py).1 (actW t true px py).2) (Op.negFloat .f32 (sideW ax ay bx b_y px py)) = some .eq := by
  have hc := side_fin ha hb hp
  obtain ⟨h1, h2⟩ := neg_fin hc.lt hc.fin
  exact order_self (side_fin (act_ok t true ha).1.pt (act_ok t true hb).1.pt (act_ok t true hp).1.pt).fin h1 (by rw [side_act t true ha hb hp, h2]; rfl)

theorem side_eq {ax ay bx b_y px py : Nat} (t : Int) (f : Bool) (ha : Pt ax ay) (hb : Pt bx b_y) (hp : Pt px py) :
    FloatKind.f32.format.order (sideW (actW t f ax ay).1 (actW t f ax ay).2 (actW t f bx b_y).1 (actW t f bx b_y).2 (actW t f px py).1 (actW t f px py).2) (if f then Op.negFloat .f32 (sideW ax ay bx b_y px py) else sideW ax ay bx b_y px py) = some .eq := by
  cases f
  · rw [if_neg Bool.false_ne_true]
    exact side_same t ha hb hp
  · rw [if_pos rfl]
    exact side_neg t ha hb hp

theorem isShard_y {s : Shd} (h : ShOk s) (w : World) :
    Calls Try.prog 31 #[.agg #[.complex .f32 s.ax s.ay, .complex .f32 s.bx s.b_y, .complex .f32 s.cx s.cy, .float .f32 s.r, .float .f32 s.g, .float .f32 s.b, .float .f32 s.k]] w fun e w' => e = .returned (.bool true) ∧ Below w.heap.size w w' := by
  have q := isShard_any s w
  rw [shOk_of h] at q
  exact q

theorem inShard_act (t : Int) (f : Bool) {s : Shd} {px py : Nat} (hs : ShOk s) (hp : Pt px py) (w : World) :
    Calls Try.prog 34 #[.agg #[.complex .f32 (actS t f s).ax (actS t f s).ay, .complex .f32 (actS t f s).bx (actS t f s).b_y, .complex .f32 (actS t f s).cx (actS t f s).cy, .float .f32 (actS t f s).r, .float .f32 (actS t f s).g, .float .f32 (actS t f s).b, .float .f32 (actS t f s).k], .complex .f32 (actW t f px py).1 (actW t f px py).2] w fun e w' => e = .returned (.bool (liesW s px py)) ∧ Below w.heap.size w w' := by
  have q := inShard_any (actS t f s) _ _ w (actS_ok t f hs) (act_ok t f hp).1.pt
  rw [lies_act t f hs hp] at q
  exact q

end Go.Proofs.Ytgafdkaiiajieaa
