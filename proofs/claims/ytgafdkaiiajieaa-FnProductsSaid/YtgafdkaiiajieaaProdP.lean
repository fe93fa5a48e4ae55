/- Plain: symmetries one after the other are one, however they are grouped; each is taken back by another; what they make of points. Condition: turns from 0 to 3. -/
import Derived.Test.YtgafdkaiiajieaaActP
import Derived.Test.YtgafdkaiiajieaaSym2
namespace Go.Proofs.Ytgafdkaiiajieaa
open Go.RowKit
open Fl

theorem win_nat {t : Int} (h : win t 0 3 = true) : ∃ n : Nat, t = (n : Int) ∧ n < 4 := by
  obtain ⟨h0, h3⟩ := win_iff.1 h
  exact ⟨t.toNat, by omega, by omega⟩

theorem win_thT (t t' : Int) (f' : Bool) : win (thT t t' f') 0 3 = true := by
  unfold thT
  cases h : (win t 0 3 && win t' 0 3)
  · simp [win]
  · cases f'
    · rw [win_iff]; simp; omega
    · rw [win_iff]; simp; omega

theorem win_bkT (t : Int) (f : Bool) : win (bkT t f) 0 3 = true := by
  unfold bkT
  cases h : win t 0 3
  · simp [win]
  · obtain ⟨h0, h3⟩ := win_iff.1 h
    cases f
    · rw [win_iff]; simp; omega
    · rw [win_iff]; simp; omega

def prodB (a b c : Nat) (f g h : Bool) : Bool :=
  (thT (thT a b g) c h == thT a (thT b c h) (thF b g c h)) && (thF (thT a b g) (thF a f b g) c h == thF a f (thT b c h) (thF b g c h)) &&
  (thT a (bkT a f) (bkF a f) == 0) && (thF a f (bkT a f) (bkF a f) == false) && (thT (bkT a f) a f == 0) && (thF (bkT a f) (bkF a f) a f == false) &&
  (thT 0 a f == (a : Int)) && (thF 0 false a f == f)

theorem prod_all : ∀ a, a < 4 → ∀ b, b < 4 → ∀ c, c < 4 → ∀ f g h : Bool, prodB a b c f g h = true := by decide +kernel

structure ProdOk (t1 t2 t3 : Int) (f1 f2 f3 : Bool) : Prop where
  a1 : thT (thT t1 t2 f2) t3 f3 = thT t1 (thT t2 t3 f3) (thF t2 f2 t3 f3)
  a2 : thF (thT t1 t2 f2) (thF t1 f1 t2 f2) t3 f3 = thF t1 f1 (thT t2 t3 f3) (thF t2 f2 t3 f3)
  b1 : thT t1 (bkT t1 f1) (bkF t1 f1) = 0
  b2 : thF t1 f1 (bkT t1 f1) (bkF t1 f1) = false
  c1 : thT (bkT t1 f1) t1 f1 = 0
  c2 : thF (bkT t1 f1) (bkF t1 f1) t1 f1 = false
  d1 : thT 0 t1 f1 = t1
  d2 : thF 0 false t1 f1 = f1

theorem prod_ok {t1 t2 t3 : Int} (f1 f2 f3 : Bool) (h1 : win t1 0 3 = true) (h2 : win t2 0 3 = true) (h3 : win t3 0 3 = true) : ProdOk t1 t2 t3 f1 f2 f3 := by
  obtain ⟨a, rfl, ha⟩ := win_nat h1
  obtain ⟨b, rfl, hb⟩ := win_nat h2
  obtain ⟨c, rfl, hc⟩ := win_nat h3
  have h := prod_all a ha b hb c hc f1 f2 f3
  unfold prodB at h
  simp only [Bool.and_eq_true, beq_iff_eq] at h
  obtain ⟨⟨⟨⟨⟨⟨⟨q1, q2⟩, q3⟩, q4⟩, q5⟩, q6⟩, q7⟩, q8⟩ := h
  exact ⟨q1, q2, q3, q4, q5, q6, q7, q8⟩

theorem actI_th (n m : Nat) (hn : n < 4) (hm : m < 4) (f g : Bool) (a b : Int) : actI (m : Int) g (actI (n : Int) f (a, b)) = actI (thT n m g) (thF n f m g) (a, b) := by
  have hn : n = 0 ∨ n = 1 ∨ n = 2 ∨ n = 3 := by omega
  have hm : m = 0 ∨ m = 1 ∨ m = 2 ∨ m = 3 := by omega
  rcases hn with rfl | rfl | rfl | rfl <;> rcases hm with rfl | rfl | rfl | rfl <;> cases f <;> cases g <;> simp [actI, turnsI, thT, thF, win]

theorem actI_bk (n : Nat) (hn : n < 4) (f : Bool) (a b : Int) : actI (bkT n f) (bkF n f) (actI (n : Int) f (a, b)) = (a, b) := by
  have hn : n = 0 ∨ n = 1 ∨ n = 2 ∨ n = 3 := by omega
  rcases hn with rfl | rfl | rfl | rfl <;> cases f <;> simp [actI, turnsI, bkT, bkF, win]

/-- Two symmetries, one after the other, on a point: the same words as their product. -/
theorem act_th {t t' : Int} {f f' : Bool} {x y : Nat} (h1 : win t 0 3 = true) (h2 : win t' 0 3 = true) (h : Pt x y) :
    PtC (actW t' f' (actW t f x y).1 (actW t f x y).2).1 (actW t' f' (actW t f x y).1 (actW t f x y).2).2 ∧ actW t' f' (actW t f x y).1 (actW t f x y).2 = actW (thT t t' f') (thF t f t' f') x y := by
  obtain ⟨n, rfl, hn⟩ := win_nat h1
  obtain ⟨m, rfl, hm⟩ := win_nat h2
  obtain ⟨p1, e1⟩ := act_ok (n : Int) f h
  obtain ⟨p2, e2⟩ := act_ok (m : Int) f' p1.pt
  obtain ⟨p3, e3⟩ := act_ok (thT n m f') (thF n f m f') h
  refine ⟨p2, ?_⟩
  have := pt_eq p2 p3 (by rw [e2, e3, e1, actI_th n m hn hm])
  exact Prod.ext this.1 this.2

theorem act_bk {t : Int} {f : Bool} {x y : Nat} (h1 : win t 0 3 = true) (h : Pt x y) :
    PtC (actW (bkT t f) (bkF t f) (actW t f x y).1 (actW t f x y).2).1 (actW (bkT t f) (bkF t f) (actW t f x y).1 (actW t f x y).2).2 ∧
    val (actW (bkT t f) (bkF t f) (actW t f x y).1 (actW t f x y).2).1 = val x ∧ val (actW (bkT t f) (bkF t f) (actW t f x y).1 (actW t f x y).2).2 = val y := by
  obtain ⟨n, rfl, hn⟩ := win_nat h1
  obtain ⟨p1, e1⟩ := act_ok (n : Int) f h
  obtain ⟨p2, e2⟩ := act_ok (bkT n f) (bkF n f) p1.pt
  rw [e1, actI_bk n hn] at e2
  simp only [Prod.mk.injEq] at e2
  exact ⟨p2, e2.1, e2.2⟩

end Go.Proofs.Ytgafdkaiiajieaa
