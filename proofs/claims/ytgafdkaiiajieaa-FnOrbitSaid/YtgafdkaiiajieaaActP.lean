/- Plain facts on points: what a symmetry makes of a point, in words and in numbers. Condition: parts from -4096 to 4096. -/
import Derived.Test.YtgafdkaiiajieaaSideP
namespace Go.Proofs.Ytgafdkaiiajieaa
open Go.RowKit
open Fl

/-- n quarter turns, in words. -/
def turnsW : Nat → Nat × Nat → Nat × Nat
  | 0, p => p
  | n + 1, p => turnsW n (diffF 0 p.2, p.1)

/-- What a symmetry makes of a point, in words. -/
def actW (t : Int) (f : Bool) (x y : Nat) : Nat × Nat :=
  (cl (turnsW t.toNat (x, if f then diffF 0 y else y)).1, cl (turnsW t.toNat (x, if f then diffF 0 y else y)).2)

/-- n quarter turns, in numbers. -/
def turnsI : Nat → Int × Int → Int × Int
  | 0, p => p
  | n + 1, p => turnsI n (-p.2, p.1)

def actI (t : Int) (f : Bool) (p : Int × Int) : Int × Int := turnsI t.toNat (p.1, if f then -p.2 else p.2)

/-- The words of a point. -/
structure Pt (x y : Nat) : Prop where
  rx : rch x = true
  ry : rch y = true
  lx : x < 4294967296
  ly : y < 4294967296

/-- A point whose words are cleaned. -/
structure PtC (x y : Nat) : Prop where
  pt : Pt x y
  cx : Can x
  cy : Can y

theorem ng_word {x : Nat} (h : rch x = true) : rch (diffF 0 x) = true ∧ diffF 0 x < 4294967296 ∧ val (diffF 0 x) = - val x ∧ Can (diffF 0 x) := by
  obtain ⟨_, hc, hv⟩ := ng_fin (rch_fin h)
  exact ⟨rch_of hc.fin (by rw [hv, Int.natAbs_neg]; exact rch_abs h), hc.lt, hv, hc⟩

theorem turns_ok : ∀ (n : Nat) (x y : Nat), Pt x y → Pt (turnsW n (x, y)).1 (turnsW n (x, y)).2 ∧ (val (turnsW n (x, y)).1, val (turnsW n (x, y)).2) = turnsI n (val x, val y)
  | 0, x, y, h => ⟨h, rfl⟩
  | n + 1, x, y, h => by
    obtain ⟨h1, h2, h3, _⟩ := ng_word h.ry
    have := turns_ok n (diffF 0 y) x ⟨h1, h.rx, h2, h.lx⟩
    rw [h3] at this
    exact this

theorem cl_word {x : Nat} (h : rch x = true) (hl : x < 4294967296) : rch (cl x) = true ∧ cl x < 4294967296 ∧ val (cl x) = val x ∧ Can (cl x) := by
  obtain ⟨hc, hv⟩ := can_of_cl hl (rch_fin h)
  exact ⟨rch_of hc.fin (by rw [hv]; exact rch_abs h), hc.lt, hv, hc⟩

theorem act_ok (t : Int) (f : Bool) {x y : Nat} (h : Pt x y) : PtC (actW t f x y).1 (actW t f x y).2 ∧ (val (actW t f x y).1, val (actW t f x y).2) = actI t f (val x, val y) := by
  have h0 : Pt x (if f then diffF 0 y else y) ∧ val (if f then diffF 0 y else y) = if f then - val y else val y := by
    cases f
    · exact ⟨h, rfl⟩
    · obtain ⟨h1, h2, h3, _⟩ := ng_word h.ry
      exact ⟨⟨h.rx, h1, h.lx, h2⟩, h3⟩
  obtain ⟨k1, k2⟩ := turns_ok t.toNat x _ h0.1
  obtain ⟨a1, a2, a3, a4⟩ := cl_word k1.rx k1.lx
  obtain ⟨b1, b2, b3, b4⟩ := cl_word k1.ry k1.ly
  refine ⟨⟨⟨a1, b1, a2, b2⟩, a4, b4⟩, ?_⟩
  unfold actW actI
  rw [a3, b3, k2, h0.2]

/-- Two points are the same where they stand for the same numbers. -/
theorem pt_eq {x y x' y' : Nat} (h : PtC x y) (h' : PtC x' y') (e : (val x, val y) = (val x', val y')) : x = x' ∧ y = y' := by
  simp only [Prod.mk.injEq] at e
  exact ⟨can_inj h.cx h'.cx e.1, can_inj h.cy h'.cy e.2⟩

theorem order_self {x y : Nat} (hx : fin x) (hy : fin y) (e : val x = val y) : FloatKind.f32.format.order x y = some .eq := by
  show S.order x y = some .eq
  rw [order_fin hx hy, e]
  simp [compare, compareOfLessAndEq]

end Go.Proofs.Ytgafdkaiiajieaa
