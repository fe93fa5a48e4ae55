/- What the reference draws for glass: a point near shards; shards, a point and light. Condition: the code is a slice of bytes that can be read. -/
import Derived.Test.YtgafdkaiiajieaaGlassC
namespace Go.Proofs.Ytgafdkaiiajieaa
open Go.RowKit
open Fl

/-- A slice that reads as a list of shards. -/
def ReadsSh (w : World) (a : Option Addr) (n cap : Nat) (l : List Shd) : Prop :=
  l.length = n ∧ (n = 0 ∨ ∃ g, a = some ⟨g, 0, none⟩ ∧ n ≤ cap ∧ cap ≤ maxLen ∧ ∀ j, j < n * 7 → w.cell? ⟨g, j, none⟩ = (shsCells l)[j]?)

theorem readsSh_of_own {w : World} {base : Nat} {v : Value} {l : List Shd} (h : w.ownsRow base 56 7 v l.length (shsCells l)) : ∃ a cap, v = .slice a l.length cap ∧ ReadsSh w a l.length cap l ∧ ∀ x, a = some x → v.ownBlock = some x.block := by
  rcases h.2 with ⟨rfl, h0⟩ | ⟨g, cap, cur, rfl, hb, hg, hn, hm, _, _⟩
  · exact ⟨none, 0, by rw [h0], ⟨rfl, .inl h0⟩, fun x hx => by cases hx⟩
  · exact ⟨_, cap, rfl, ⟨rfl, .inr ⟨g, rfl, hn, hm, fun j hj => h.cellAt j hj⟩⟩, fun x hx => by cases hx; rfl⟩

theorem ReadsSh.below {w W : World} {a : Option Addr} {n cap : Nat} {l : List Shd} (h : ReadsSh w a n cap l) (hb : Below w.heap.size w W) : ReadsSh W a n cap l := by
  obtain ⟨h1, h2⟩ := h
  refine ⟨h1, ?_⟩
  rcases h2 with h2 | ⟨g, rfl, hn, hm, hc⟩
  · exact .inl h2
  · refine .inr ⟨g, rfl, hn, hm, fun j hj => ?_⟩
    have e := hc j hj
    have hl : j < (shsCells l).length := by rw [shsCells_length]; omega
    rw [List.getElem?_eq_getElem hl] at e ⊢
    exact keepc hb e

theorem ReadsSh.grown {w W : World} {a : Option Addr} {n cap p : Nat} {l : List Shd} (h : ReadsSh w a n cap l) (hg : w.grownBy W (some p)) (hne : ∀ x, a = some x → x.block ≠ p) : ReadsSh W a n cap l := by
  obtain ⟨h1, h2⟩ := h
  refine ⟨h1, ?_⟩
  rcases h2 with h2 | ⟨g, rfl, hn, hm, hc⟩
  · exact .inl h2
  · refine .inr ⟨g, rfl, hn, hm, fun j hj => ?_⟩
    have e := hc j hj
    have hl : j < (shsCells l).length := by rw [shsCells_length]; omega
    rw [List.getElem?_eq_getElem hl] at e ⊢
    exact keepg hg e (show g ≠ p from hne ⟨g, 0, none⟩ rfl)

/-- The cells of shard k. -/
structure ShAt (w : World) (g k : Nat) (s : Shd) : Prop where
  c0 : w.cell? ⟨g, k * 7, none⟩ = some (.complex .f32 s.ax s.ay)
  c1 : w.cell? ⟨g, k * 7 + 1, none⟩ = some (.complex .f32 s.bx s.b_y)
  c2 : w.cell? ⟨g, k * 7 + 2, none⟩ = some (.complex .f32 s.cx s.cy)
  c3 : w.cell? ⟨g, k * 7 + 3, none⟩ = some (.float .f32 s.r)
  c4 : w.cell? ⟨g, k * 7 + 4, none⟩ = some (.float .f32 s.g)
  c5 : w.cell? ⟨g, k * 7 + 5, none⟩ = some (.float .f32 s.b)
  c6 : w.cell? ⟨g, k * 7 + 6, none⟩ = some (.float .f32 s.k)

theorem ReadsSh.at {w : World} {a : Option Addr} {n cap : Nat} {l : List Shd} (h : ReadsSh w a n cap l) {k : Nat} (hk : k < n) : ∃ g s, a = some ⟨g, 0, none⟩ ∧ s ∈ l ∧ ShAt w g k s ∧ ∃ hk : k < l.length, l[k] = s := by
  obtain ⟨h1, h2⟩ := h
  rcases h2 with h2 | ⟨g, ha, hn, hm, hc⟩
  · omega
  · have hkl : k < l.length := by omega
    have key : ∀ j, j < 7 → w.cell? ⟨g, k * 7 + j, none⟩ = (shCells l[k])[j]? := fun j hj => (hc _ (by omega)).trans (shsCells_at l k hkl j hj)
    exact ⟨g, l[k], ha, List.getElem_mem _, ⟨key 0 (by omega), key 1 (by omega), key 2 (by omega), key 3 (by omega), key 4 (by omega), key 5 (by omega), key 6 (by omega)⟩, hkl, rfl⟩

theorem near_half {x y : Nat} (hx : rch x = true) (hy : rch y = true) : ∃ u v, floatBits .add .f32 x y = some u ∧ floatBits .quo .f32 u 1073741824 = some v ∧ v < 4294967296 := by
  obtain ⟨u, h1, h2⟩ := bd_add (bd_of_rch hx) (bd_of_rch hy)
  obtain ⟨v, h3, h4⟩ := div_some h2.1 (.inl rfl)
  exact ⟨u, v, h1, h3, h4⟩

theorem near_quarter {x y z : Nat} (hx : rch x = true) (hy : rch y = true) (hz : rch z = true) : ∃ u d s v, floatBits .add .f32 x y = some u ∧ floatBits .mul .f32 1073741824 z = some d ∧ floatBits .add .f32 u d = some s ∧ floatBits .quo .f32 s 1082130432 = some v ∧ v < 4294967296 := by
  obtain ⟨u, h1, h2⟩ := bd_add (bd_of_rch hx) (bd_of_rch hy)
  obtain ⟨d, h3, h4⟩ := bd_twice (bd_of_rch hz)
  obtain ⟨s, h5, h6⟩ := bd_add2 h2 h4
  obtain ⟨v, h7, h8⟩ := div_some h6.1 (.inr rfl)
  exact ⟨u, d, s, v, h1, h3, h5, h7, h8⟩

set_option maxRecDepth 100000 in
set_option maxHeartbeats 4000000 in
theorem l3Near_any (w0 w : World) (p : Nat) (a : Option Addr) (len cap : Nat) (am : Option Addr) (n cm : Nat) (l : List Shd) (c : CurAt w0 w p a len cap) (hr : ReadsSh w am n cm l) (hne : ∀ x, am = some x → x.block ≠ p) (hok : ∀ s ∈ l, ShOk s) (hn : n ≤ 6) :
    Calls Try.prog 63 #[.pointer (some ⟨p, 0, none⟩), .slice am n cm] w (RetAny w0 w p a len cap) := by
  have HR := hide hr
  have HNE := hide hne
  have HOK := hide hok
  clear hr hne hok
  by_cases h0 : n = 0
  · subst h0
    go_enter Try.func63, Try.ntmps63
    go_wp2_with fail
    refine (l1Any_any w0 _ p a len cap c).mono ?_
    rintro e w1 ⟨x, y, rfl, hx, hy, c, g⟩
    have HX := hide hx
    have HY := hide hy
    clear hx hy
    go_wp2_with fail
    go_ret
    exact ⟨x, y, rfl, HX.out, HY.out, c, g⟩
  · have hb0 : ((n : Int) == 0) = false := by simp; omega
    have hpos : 0 < n := by omega
    go_enter Try.func63, Try.ntmps63
    go_wp2_with fail
    refine (l1Once_any w0 _ p a len cap 4 c (by omega) (by omega)).mono ?_
    rintro e w1 ⟨o, rfl, c, g1⟩
    cases o
    · go_wp2_with fail
      refine (l1Below_any w0 _ p a len cap n c (by omega) (by omega)).mono ?_
      rintro e w2 ⟨x, rfl, x0, x1, c, g2⟩
      have gg := grown_trans g1 g2
      clear g1 g2
      obtain ⟨k, rfl⟩ := Int.eq_ofNat_of_zero_le x0
      have hk : k < n := by omega
      obtain ⟨gm, s, rfl, hs, hat, _⟩ := (HR.out.grown gg HNE.out).at hk
      have hsok := HOK.out s hs
      obtain ⟨u1, v1, e1, e2, e3⟩ := near_half hsok.pa.rx hsok.pb.rx
      obtain ⟨u2, v2, e4, e5, e6⟩ := near_half hsok.pa.ry hsok.pb.ry
      obtain ⟨u3, d3, s3, v3, e7, e8, e9, e10, e11⟩ := near_quarter hsok.pa.rx hsok.pb.rx hsok.pc.rx
      obtain ⟨u4, d4, s4, v4, f7, f8, f9, f10, f11⟩ := near_quarter hsok.pa.ry hsok.pb.ry hsok.pc.ry
      have HS := hide hsok.pa
      have E3 := hide e3
      have E6 := hide e6
      have E11 := hide e11
      have F11 := hide f11
      obtain ⟨ax, ay, bx, b_y, cx, cy, r, g, b, ck⟩ := s
      obtain ⟨c0, c1, c2, c3, c4, c5, c6⟩ := hat
      simp only at e1 e4 e7 e8 f7 f8 c0 c1 c2 c3 c4 c5 c6 HS
      have hu13 : u1 = u3 := Option.some.inj (e1.symm.trans e7)
      have hu24 : u2 = u4 := Option.some.inj (e4.symm.trans f7)
      subst hu13 hu24
      clear e7 f7 hs hsok e3 e6 e11 f11 x0 x1 HR HOK
      have q1 := fun t w => run_ok (P := Try.prog) .add t _ _ _ e1 w
      have q2 := fun t w => run_ok (P := Try.prog) .quo t _ _ _ e2 w
      have q4 := fun t w => run_ok (P := Try.prog) .add t _ _ _ e4 w
      have q5 := fun t w => run_ok (P := Try.prog) .quo t _ _ _ e5 w
      have q8 := fun t w => run_ok (P := Try.prog) .mul t _ _ _ e8 w
      have q9 := fun t w => run_ok (P := Try.prog) .add t _ _ _ e9 w
      have q10 := fun t w => run_ok (P := Try.prog) .quo t _ _ _ e10 w
      have r8 := fun t w => run_ok (P := Try.prog) .mul t _ _ _ f8 w
      have r9 := fun t w => run_ok (P := Try.prog) .add t _ _ _ f9 w
      have r10 := fun t w => run_ok (P := Try.prog) .quo t _ _ _ f10 w
      clear e1 e2 e4 e5 e8 e9 e10 f8 f9 f10
      go_wp2_with fail
      have np : w2.heap.size ≠ p := by
        obtain ⟨H, hh⟩ := c.h
        have := World.block_lt_of_cell? w2 _ hh
        have : p < w2.heap.size := this
        omega
      have nb : Below w2.heap.size w2 (w2.alloc (.cells #[.complex .f32 ax ay, .complex .f32 bx b_y, .complex .f32 cx cy, .float .f32 r, .float .f32 g, .float .f32 b, .float .f32 ck] 56)) := (Below.refl _ _).alloc (Nat.le_refl _) _
      have y0 : (w2.alloc (.cells #[.complex .f32 ax ay, .complex .f32 bx b_y, .complex .f32 cx cy, .float .f32 r, .float .f32 g, .float .f32 b, .float .f32 ck] 56)).cell? ⟨w2.heap.size, 0, none⟩ = some (.complex .f32 ax ay) := by go_simp
      have y1 : (w2.alloc (.cells #[.complex .f32 ax ay, .complex .f32 bx b_y, .complex .f32 cx cy, .float .f32 r, .float .f32 g, .float .f32 b, .float .f32 ck] 56)).cell? ⟨w2.heap.size, 1, none⟩ = some (.complex .f32 bx b_y) := by go_simp
      have y2 : (w2.alloc (.cells #[.complex .f32 ax ay, .complex .f32 bx b_y, .complex .f32 cx cy, .float .f32 r, .float .f32 g, .float .f32 b, .float .f32 ck] 56)).cell? ⟨w2.heap.size, 2, none⟩ = some (.complex .f32 cx cy) := by go_simp
      have c := c.below nb
      have gg := grown_trans gg (grown_below (r := some p) nb)
      generalize w2.alloc (.cells #[.complex .f32 ax ay, .complex .f32 bx b_y, .complex .f32 cx cy, .float .f32 r, .float .f32 g, .float .f32 b, .float .f32 ck] 56) = wB at nb y0 y1 y2 c gg ⊢
      clear nb c0 c1 c2 c3 c4 c5 c6
      refine (l1Below_any w0 _ p a len cap 4 c (by omega) (by omega)).mono ?_
      rintro e w3 ⟨x, rfl, x0, x1, c, g3⟩
      have y0 := keepg g3 y0 np
      have y1 := keepg g3 y1 np
      have y2 := keepg g3 y2 np
      have gg := grown_trans gg g3
      have hx : x = 0 ∨ x = 1 ∨ (x == 0) = false ∧ (x == 1) = false := by
        simp only [beq_eq_false_iff_ne]
        omega
      clear x0 x1 g3
      rcases hx with rfl | rfl | ⟨i0, i1⟩
      · go_wp2_with fail
        go_ret
        exact ⟨ax, ay, rfl, loose_lt HS.out.lx, loose_lt HS.out.ly, c, gg⟩
      · go_wp2_with fail
        go_ret
        exact ⟨v1, v2, rfl, loose_lt E3.out, loose_lt E6.out, c, gg⟩
      · go_wp2_with fail
        go_ret
        exact ⟨v3, v4, rfl, loose_lt E11.out, loose_lt F11.out, c, gg⟩
    · go_wp2_with fail
      refine (l1Any_any w0 _ p a len cap c).mono ?_
      rintro e w2 ⟨x, y, rfl, hx, hy, c, g⟩
      have HX := hide hx
      have HY := hide hy
      clear hx hy
      go_wp2_with fail
      go_ret
      exact ⟨x, y, rfl, HX.out, HY.out, c, grown_trans g1 g⟩

/-- Shards, a point, and light. -/
def RetGlass (w : World) (e : Ending) (w' : World) : Prop :=
  ∃ (v : Value) (l : List Shd) (x y r g b : Nat), e = .returned (.tuple #[v, .complex .f32 x y, .agg #[.float .f32 r, .float .f32 g, .float .f32 b]]) ∧ l.length ≤ 6 ∧ (∀ s ∈ l, ShOk s) ∧ Pt x y ∧ isCol r g b = true ∧
    w'.ownsRow w.heap.size 56 7 v l.length (shsCells l) ∧ Below w.heap.size w w'

theorem ownsSet {w : World} {base : Nat} {E : TypeId} {size b j : Nat} {v u : Value} {n : Nat} {xs : List Value} (h : w.ownsRow base E size v n xs) (hne : ∀ q, v.ownBlock = some q → q ≠ b) : (w.setCell ⟨b, j, none⟩ u).ownsRow base E size v n xs := by
  obtain ⟨h1, h2⟩ := h
  refine ⟨h1, ?_⟩
  rcases h2 with h2 | ⟨g, cap, cur, rfl, hb, hg, hr⟩
  · exact .inl h2
  · refine .inr ⟨g, cap, cur, rfl, hb, ?_, hr⟩
    have : g ≠ b := hne g rfl
    rw [Below.heap_setCell _ _ _ _ (by show g ≠ b; exact this)]
    exact hg

theorem pt_zero : Pt 0 0 := ⟨rch_zero, rch_zero, by omega, by omega⟩

set_option maxRecDepth 100000 in
set_option maxHeartbeats 4000000 in
theorem drawGlass_any (w : World) (a : Option Addr) (len cap : Nat) (hc : IsCode w a len) :
    Calls Try.prog 29 #[.slice a len cap] w (RetGlass w) := by
  have HC := hide hc
  clear hc
  have bel : Below w.heap.size w (w.alloc (.cells #[.float .f32 0, .float .f32 0, .float .f32 0] 41)) := (Below.refl _ _).alloc (Nat.le_refl _) _
  have z0 : (w.alloc (.cells #[.float .f32 0, .float .f32 0, .float .f32 0] 41)).cell? ⟨w.heap.size, 0, none⟩ = some (.float .f32 0) := by go_simp
  have z1 : (w.alloc (.cells #[.float .f32 0, .float .f32 0, .float .f32 0] 41)).cell? ⟨w.heap.size, 1, none⟩ = some (.float .f32 0) := by go_simp
  have z2 : (w.alloc (.cells #[.float .f32 0, .float .f32 0, .float .f32 0] 41)).cell? ⟨w.heap.size, 2, none⟩ = some (.float .f32 0) := by go_simp
  have zf : ∀ j, (w.alloc (.cells #[.float .f32 0, .float .f32 0, .float .f32 0] 41)).frozen? ⟨w.heap.size, j, none⟩ = false := fun j => by go_simp
  have zz : w.heap.size < (w.alloc (.cells #[.float .f32 0, .float .f32 0, .float .f32 0] 41)).heap.size := by simp
  go_enter Try.func29, Try.ntmps29
  go_wp2_with fail
  generalize w.alloc (.cells #[.float .f32 0, .float .f32 0, .float .f32 0] 41) = wA at bel z0 z1 z2 zf zz ⊢
  refine (l1New_any a len cap _ (isCode_belowC HC.out bel)).mono ?_
  rintro e w1 ⟨rfl, H, rfl⟩
  have c := cur_newC w wA wA.heap.size a len cap H HC.out bel rfl
  have nb : Below wA.heap.size wA (wA.alloc (.cells #[.slice a len cap, .int .i64 0, .int .i64 H] 96)) := (Below.refl _ _).alloc (Nat.le_refl _) _
  have z0 := keepc nb z0
  have z1 := keepc nb z1
  have z2 := keepc nb z2
  have zf := fun j => (nb.frozen (p := ⟨w.heap.size, j, none⟩) zz).trans (zf j)
  have zz : w.heap.size < (wA.alloc (.cells #[.slice a len cap, .int .i64 0, .int .i64 H] 96)).heap.size := Nat.lt_of_lt_of_le zz nb.size
  have np : w.heap.size ≠ wA.heap.size := by omega
  generalize wA.alloc (.cells #[.slice a len cap, .int .i64 0, .int .i64 H] 96) = w1 at c z0 z1 z2 zf zz nb ⊢
  clear nb
  have Z := hide (And.intro z0 (And.intro z1 z2))
  have ZF := hide zf
  clear z0 z1 z2 zf
  go_wp2_with fail
  refine (l3List_any w _ wA.heap.size a len cap c).mono ?_
  rintro e w2 ⟨v, l, rfl, hl6, hok, hd⟩
  obtain ⟨av, cv, rfl, hr, hav⟩ := readsSh_of_own hd.own
  have hneb : ∀ x, av = some x → x.block ≠ wA.heap.size := fun x hx e => hd.xp (by rw [hav x hx, e])
  have hlow : ∀ q, (Value.slice av l.length cv).ownBlock = some q → w1.heap.size ≤ q := fun q hq => (hd.own.lt q hq).1
  have c := hd.cur
  have gg := hd.gg
  have own := hd.own
  have hxp := hd.xp
  clear hd hav
  have HOK := hide hok
  have HR := hide hr
  have HNE := hide hneb
  have HO := hide own
  clear hok hr hneb own
  generalize hn : l.length = n at HR HO hl6 hlow hxp ⊢
  have HN := hide hn
  clear hn
  go_wp2_with fail
  refine (l3Near_any w _ wA.heap.size a len cap av n cv l c HR.out HNE.out HOK.out hl6).mono ?_
  rintro e w3 ⟨x, y, rfl, hx, hy, c, g⟩
  have gg := grown_trans gg g
  have HO := hide (ownsKeptG HO.out g hxp)
  have HX := hide hx
  have HY := hide hy
  clear g hx hy HR
  go_wp2_with fail
  refine (sIsPoint_any _ _ _).mono ?_
  rintro e w4 ⟨rfl, hb4⟩
  have HO := hide (ownsBelowG HO.out hb4)
  have c := c.below hb4
  have gg := grown_trans gg (grown_below (r := some wA.heap.size) hb4)
  clear hb4
  have k0 : w.heap.size ≤ w.heap.size := Nat.le_refl _
  have hle : w.heap.size ≤ w1.heap.size := by omega
  cases hp : (rch x && rch y)
  · go_wp2_with fail
    refine (l2Draw_any w _ wA.heap.size a len cap c).mono ?_
    rintro e w5 ⟨r, gr, b, rfl, hcol, c, g⟩
    have HO := hide (ownsKeptG HO.out g hxp)
    have gg := grown_trans gg g
    have z0 := keepg gg Z.out.1 np
    have z1 := keepg gg Z.out.2.1 np
    have z2 := keepg gg Z.out.2.2 np
    have zf := fun j => keepgf gg (ZF.out j) zz np
    have HCOL := hide hcol
    have bel5 := c.bel
    have kg : ∀ q, (Value.slice av n cv).ownBlock = some q → q ≠ w.heap.size := fun q hq => by have := hlow q hq; omega
    clear g hcol
    go_wp2_with fail
    refine bodyPost_ret (v := .tuple #[.slice av n cv, .complex .f32 0 0, .agg #[.float .f32 r, .float .f32 gr, .float .f32 b]]) (by simp [results, Try.results29, go_sem, z0, z1, z2]) rfl ⟨_, l, 0, 0, r, gr, b, rfl, by rw [HN.out]; exact hl6, HOK.out, pt_zero, HCOL.out, ?_, ((bel5.setCell k0 _).setCell k0 _).setCell k0 _⟩
    rw [HN.out]
    exact ownsBase (ownsSet (ownsSet (ownsSet HO.out kg) kg) kg) hle
  · obtain ⟨rx, ry⟩ := Bool.and_eq_true_iff.1 hp
    have HPT : Hid (Pt x y) := ⟨rx, ry, HX.out rx, HY.out ry⟩
    clear rx ry
    go_wp2_with fail
    refine (l2Draw_any w _ wA.heap.size a len cap c).mono ?_
    rintro e w5 ⟨r, gr, b, rfl, hcol, c, g⟩
    have HO := hide (ownsKeptG HO.out g hxp)
    have gg := grown_trans gg g
    have z0 := keepg gg Z.out.1 np
    have z1 := keepg gg Z.out.2.1 np
    have z2 := keepg gg Z.out.2.2 np
    have zf := fun j => keepgf gg (ZF.out j) zz np
    have HCOL := hide hcol
    have bel5 := c.bel
    have kg : ∀ q, (Value.slice av n cv).ownBlock = some q → q ≠ w.heap.size := fun q hq => by have := hlow q hq; omega
    clear g hcol
    go_wp2_with fail
    refine bodyPost_ret (v := .tuple #[.slice av n cv, .complex .f32 x y, .agg #[.float .f32 r, .float .f32 gr, .float .f32 b]]) (by simp [results, Try.results29, go_sem, z0, z1, z2]) rfl ⟨_, l, x, y, r, gr, b, rfl, by rw [HN.out]; exact hl6, HOK.out, HPT.out, HCOL.out, ?_, ((bel5.setCell k0 _).setCell k0 _).setCell k0 _⟩
    rw [HN.out]
    exact ownsBase (ownsSet (ownsSet (ownsSet HO.out kg) kg) kg) hle

end Go.Proofs.Ytgafdkaiiajieaa
