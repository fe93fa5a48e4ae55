/- Plain: as many images as a point has, times as many symmetries as keep it, are all symmetries of a kind. Condition: a kind from 0 to 3, a point. -/
import Derived.Test.YtgafdkaiiajieaaKeepC
import Derived.Test.YtgafdkaiiajieaaFoldP
namespace Go.Proofs.Ytgafdkaiiajieaa
open Go.RowKit
open Fl

/-- A coordinate as a sign and which of the two numbers it is. -/
abbrev Co := Bool × Bool
def coI (a b : Int) (c : Co) : Int := if c.1 then - (if c.2 then b else a) else (if c.2 then b else a)
def ngC (c : Co) : Co := (!c.1, c.2)
def turnsC : Nat → Co × Co → Co × Co
  | 0, p => p
  | n + 1, p => turnsC n (ngC p.2, p.1)
def actC (s : Int × Bool) : Co × Co := turnsC s.1.toNat ((false, false), if s.2 then (true, true) else (false, true))

theorem coI_ng (a b : Int) (c : Co) : coI a b (ngC c) = - coI a b c := by
  obtain ⟨n, k⟩ := c
  cases n <;> simp [coI, ngC]

theorem turnsC_ok (a b : Int) : ∀ (n : Nat) (p q : Co), turnsI n (coI a b p, coI a b q) = (coI a b (turnsC n (p, q)).1, coI a b (turnsC n (p, q)).2)
  | 0, _, _ => rfl
  | n + 1, p, q => by
    show turnsI n (- coI a b q, coI a b p) = _
    rw [← coI_ng, turnsC_ok a b n (ngC q) p]
    rfl

theorem actC_ok (a b : Int) (s : Int × Bool) : actI s.1 s.2 (a, b) = (coI a b (actC s).1, coI a b (actC s).2) := by
  unfold actI actC
  rw [← turnsC_ok]
  obtain ⟨t, f⟩ := s
  cases f <;> rfl

/-- Equality of coordinates, by four facts on the numbers. -/
def eqC4 (A B C D : Bool) (c d : Co) : Bool := if c.2 == d.2 then (c.1 == d.1 || (if c.2 then B else A)) else (if c.1 == d.1 then C else D)

theorem eqC4_ok (a b : Int) (c d : Co) : decide (coI a b c = coI a b d) = eqC4 (decide (a = 0)) (decide (b = 0)) (decide (a = b)) (decide (a = -b)) c d := by
  obtain ⟨n, k⟩ := c
  obtain ⟨m, l⟩ := d
  cases n <;> cases k <;> cases m <;> cases l <;> simp [coI, eqC4] <;> omega

def patE (A B C D : Bool) (s r : Int × Bool) : Bool := eqC4 A B C D (actC s).1 (actC r).1 && eqC4 A B C D (actC s).2 (actC r).2

theorem patE_ok (a b : Int) (s r : Int × Bool) : decide (actI s.1 s.2 (a, b) = actI r.1 r.2 (a, b)) = patE (decide (a = 0)) (decide (b = 0)) (decide (a = b)) (decide (a = -b)) s r := by
  unfold patE
  rw [← eqC4_ok, ← eqC4_ok, actC_ok, actC_ok, Bool.eq_iff_iff]
  simp [Prod.mk.injEq]

/-- Symmetries without repeats. -/
def orbE (e : Int × Bool → Int × Bool → Bool) (l : List (Int × Bool)) : List (Int × Bool) := l.foldl (fun acc g => if acc.any (e g) then acc else acc ++ [g]) []

def consB (A B C D : Bool) : Bool := (A && B && C && D) || !((A && B) || (A && C) || (A && D) || (B && C) || (B && D) || (C && D))
def cntB (kind : Nat) (A B C D : Bool) : Bool :=
  !consB A B C D || (decide ((orbE (patE A B C D) (symsOf (kind : Int))).length * ((symsOf (kind : Int)).filter fun s => patE A B C D s (0, false)).length = (symsOf (kind : Int)).length) && decide (0 < ((symsOf (kind : Int)).filter fun s => patE A B C D s (0, false)).length))

theorem cnt_all : ∀ k, k < 4 → ∀ A B C D : Bool, cntB k A B C D = true := by decide +kernel

theorem cons_ok (a b : Int) : consB (decide (a = 0)) (decide (b = 0)) (decide (a = b)) (decide (a = -b)) = true := by
  unfold consB
  by_cases h1 : a = 0 <;> by_cases h2 : b = 0 <;> by_cases h3 : a = b <;> by_cases h4 : a = -b <;> simp [h1, h2, h3, h4] <;> omega

theorem eqF_bool {x y : Nat} (hx : fin x) (hy : fin y) : (FloatKind.f32.format.order x y == some .eq) = decide (val x = val y) := by
  rw [show FloatKind.f32.format.order x y = some (compare (val x) (val y)) from order_fin hx hy, Bool.eq_iff_iff]
  rcases h : compare (val x) (val y) with _ | _ | _
  · have := Int.compare_eq_lt.1 h; simp; omega
  · have := Int.compare_eq_eq.1 h; simp; omega
  · have := Int.compare_eq_gt.1 h; simp; omega

theorem eqZ_val {p q : Nat × Nat} (hp : Pt p.1 p.2) (hq : Pt q.1 q.2) : eqZ p q = decide ((val p.1, val p.2) = (val q.1, val q.2)) := by
  unfold eqZ
  rw [eqF_bool (rch_fin hp.rx) (rch_fin hq.rx), eqF_bool (rch_fin hp.ry) (rch_fin hq.ry), Bool.eq_iff_iff]
  simp [Prod.mk.injEq]

theorem eqZ_act {x y : Nat} (hp : Pt x y) (s r : Int × Bool) :
    eqZ (actW s.1 s.2 x y) (actW r.1 r.2 x y) = patE (decide (val x = 0)) (decide (val y = 0)) (decide (val x = val y)) (decide (val x = -val y)) s r := by
  rw [eqZ_val (act_ok s.1 s.2 hp).1.pt (act_ok r.1 r.2 hp).1.pt, (act_ok s.1 s.2 hp).2, (act_ok r.1 r.2 hp).2, patE_ok]

theorem kpB_pat {x y : Nat} (hp : Pt x y) (s : Int × Bool) :
    kpB x y s = patE (decide (val x = 0)) (decide (val y = 0)) (decide (val x = val y)) (decide (val x = -val y)) s (0, false) := by
  unfold kpB
  rw [eqZ_val (act_ok s.1 s.2 hp).1.pt hp, (act_ok s.1 s.2 hp).2, ← patE_ok]
  rfl

theorem orb_map (x y : Nat) (l : List (Int × Bool)) :
    orbL x y l = (orbE (fun s r => eqZ (actW s.1 s.2 x y) (actW r.1 r.2 x y)) l).map (fun s => actW s.1 s.2 x y) := by
  have key : ∀ (l acc : List (Int × Bool)), l.foldl (fun acc g => dedZ acc (actW g.1 g.2 x y)) (acc.map (fun s => actW s.1 s.2 x y)) =
      (l.foldl (fun acc g => if acc.any (fun r => eqZ (actW g.1 g.2 x y) (actW r.1 r.2 x y)) then acc else acc ++ [g]) acc).map (fun s => actW s.1 s.2 x y) := by
    intro l
    induction l with
    | nil => intro acc; rfl
    | cons g l ih =>
      intro acc
      rw [List.foldl_cons, List.foldl_cons, ← ih]
      congr 1
      unfold dedZ
      rw [List.any_map]
      show (if acc.any (fun r => eqZ (actW g.1 g.2 x y) (actW r.1 r.2 x y)) then _ else _) = _
      split <;> simp
  exact key l []

theorem orbit_count {kind : Int} (h0 : 0 ≤ kind) (h3 : kind ≤ 3) {x y : Nat} (hp : Pt x y) :
    (orbL x y (symsOf kind)).length * (keepL kind x y).length = (symsOf kind).length ∧ 0 < (keepL kind x y).length := by
  obtain ⟨k, rfl⟩ := Int.eq_ofNat_of_zero_le h0
  have h := cnt_all k (by omega) (decide (val x = 0)) (decide (val y = 0)) (decide (val x = val y)) (decide (val x = -val y))
  unfold cntB at h
  rw [cons_ok] at h
  simp only [Bool.not_true, Bool.false_or, Bool.and_eq_true, decide_eq_true_eq] at h
  have e1 : (fun s r : Int × Bool => eqZ (actW s.1 s.2 x y) (actW r.1 r.2 x y)) = patE (decide (val x = 0)) (decide (val y = 0)) (decide (val x = val y)) (decide (val x = -val y)) := by
    funext s r
    exact eqZ_act hp s r
  have e2 : kpB x y = fun s => patE (decide (val x = 0)) (decide (val y = 0)) (decide (val x = val y)) (decide (val x = -val y)) s (0, false) := by
    funext s
    exact kpB_pat hp s
  unfold keepL
  rw [orb_map, List.length_map, e1, e2]
  exact h

end Go.Proofs.Ytgafdkaiiajieaa
