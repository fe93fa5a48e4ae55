/- The law FnWords: words one behind the other act one after the other; a mirror twice is none; each symmetry of mirrors has a shortest word, of four letters at most. No condition. -/
import Derived.Test.YtnpgdijafmkmkaaWrdsP
import Derived.Test.YtnpgdijafmkmkaaWof
import Derived.Test.YtnpgdijafmkmkaaAppW
import Derived.Test.YtnpgdijafmkmkaaBig
namespace Go.Proofs.Ytnpgdijafmkmkaa
open Go.RowKit Go.Sort

theorem mir_memW {kind x : Int} (h0 : 0 ≤ kind) (h3 : kind ≤ 3) (hx : 0 ≤ x) (hx2 : x < min kind 2) : ∃ s, mir kind x = some s ∧ s ∈ symsOf kind := by
  rcases (show kind = 0 ∨ kind = 1 ∨ kind = 2 ∨ kind = 3 by omega) with rfl | rfl | rfl | rfl
  · omega
  · obtain rfl : x = 0 := by omega
    exact ⟨(0, true), by decide, by decide⟩
  · rcases (show x = 0 ∨ x = 1 by omega) with rfl | rfl
    · exact ⟨(0, true), by decide, by decide⟩
    · exact ⟨(2, true), by decide, by decide⟩
  · rcases (show x = 0 ∨ x = 1 by omega) with rfl | rfl
    · exact ⟨(0, true), by decide, by decide⟩
    · exact ⟨(1, true), by decide, by decide⟩

theorem none_memW {kind : Int} (h0 : 0 ≤ kind) (h3 : kind ≤ 3) : ((0 : Int), false) ∈ symsOf kind := by
  rcases (show kind = 0 ∨ kind = 1 ∨ kind = 2 ∨ kind = 3 by omega) with rfl | rfl | rfl | rfl <;> decide

theorem wordFrom_memW {kind : Int} (h0 : 0 ≤ kind) (h3 : kind ≤ 3) : ∀ (u : List Int) (g : Int × Bool), g ∈ symsOf kind → (∀ x ∈ u, 0 ≤ x ∧ x < min kind 2) → ∃ g', wordFrom kind g u = some g' ∧ g' ∈ symsOf kind
  | [], g, hg, _ => ⟨g, rfl, hg⟩
  | x :: u, g, hg, hu => by
    obtain ⟨s, hs, hm⟩ := mir_memW h0 h3 (hu x (by simp)).1 (hu x (by simp)).2
    obtain ⟨g', h1, h2⟩ := wordFrom_memW h0 h3 u (thS g s) (th_mem (closed_all h0 h3) hg hm) (fun y hy => hu y (by simp [hy]))
    exact ⟨g', by rw [wordFrom_some hs]; exact h1, h2⟩

set_option maxRecDepth 100000 in
set_option maxHeartbeats 4000000 in
theorem FnWords_walk (a : Option Addr) (len cap : Nat) (z : List Int) (w : World) (hz : IsRow .u8 w a len cap z) :
    Calls Try.prog 13 #[.slice a len cap] w fun e w' => e = .returned (.bool true) ∧ Below w.heap.size w w' := by
  have HC := hide (isCode_of_row hz)
  have hm := (isCode_of_row hz).1
  clear hz
  by_cases hb : 4096 < len
  · go_enter Try.func13, Try.ntmps13
    go_wp2_with fail
    refine (big_any _ _ _ _).mono ?_
    rintro e w' ⟨rfl, rfl⟩
    go_wp2_with fail
    go_ret
    exact ⟨rfl, Below.refl _ _⟩
  · go_enter Try.func13, Try.ntmps13
    go_wp2_with fail
    refine (big_any _ _ _ _).mono ?_
    rintro e w' ⟨rfl, rfl⟩
    go_wp2_with fail
    refine (drawWords_any _ _ _ _ HC.out).mono ?_
    rintro e w1 ⟨kind, xv, yv, u, v, rfl, k0, k3, hu, hv, ownx, owny, bel⟩
    obtain ⟨⟨t1, f1⟩, hw1, hm1⟩ := wordFrom_memW k0 k3 u (0, false) (none_memW k0 k3) hu.2
    obtain ⟨⟨t2, f2⟩, hw2, hm2⟩ := wordFrom_memW k0 k3 v (0, false) (none_memW k0 k3) hv.2
    have hwin := win_true k0 k3
    have hul := hu.1
    have hvl := hv.1
    have hlet : ∀ (y : List Int), (∀ x ∈ y, 0 ≤ x ∧ x < min kind 2) → ∃ g, wordFrom kind (0, false) y = some g := fun y hy => by
      obtain ⟨g, hg, _⟩ := wordFrom_memW k0 k3 y (0, false) (none_memW k0 k3) hy
      exact ⟨g, hg⟩
    have win1 := (wordFrom_th u (0, false) (t1, f1) (by decide) hw1).1
    have hboth : wordFrom kind (0, false) (u ++ v) = some (thS (t1, f1) (t2, f2)) := by
      rw [wordFrom_app u v _ _ hw1]
      exact (wordFrom_th v (t1, f1) (t2, f2) win1 hw2).2
    have Y1 := word_yes (wordSym_good hwin (by omega) hw1)
    have Y2 := word_yes (wordSym_good hwin (by omega) hw2)
    have Y3 := word_yes (t := thT t1 t2 f2) (f := thF t1 f1 t2 f2) (wordSym_good (l := u ++ v) hwin (by simp; omega) hboth)
    have hhas := has_of_mem hm1
    obtain ⟨s, hs⟩ := ans_some hhas
    have HSH := hide (short_ok k0 k3 hu.2 hw1 (by omega) hs hlet)
    have HTW := hide (fun h1 => word_yes (wordSym_good (l := u ++ [0, 0]) hwin (by simp; omega) (twice_ok h1 k3 win1 hw1)))
    have W1 := fun a cap W (h : ReadsI W a u.length cap u) => symOfWord_any kind a u.length cap u W h
    have W2 := fun a cap W (h : ReadsI W a v.length cap v) => symOfWord_any kind a v.length cap v W h
    have W3 := fun a cap W (h : ReadsI W a (u ++ v).length cap (u ++ v)) => symOfWord_any kind a (u ++ v).length cap (u ++ v) W h
    have W4 := fun a cap W (h : ReadsI W a s.length cap s) => symOfWord_any kind a s.length cap s W h
    have W5 := fun a cap W (h : ReadsI W a (u ++ [0, 0]).length cap (u ++ [0, 0])) => symOfWord_any kind a (u ++ [0, 0]).length cap (u ++ [0, 0]) W h
    have WF := fun W => wordOfSym_any kind t1 f1 W
    rw [hhas, if_pos rfl, hs] at WF
    rw [Y1.1, Y1.2.1, Y1.2.2] at W1
    rw [Y2.1, Y2.2.1, Y2.2.2] at W2
    rw [Y3.1, Y3.2.1, Y3.2.2] at W3
    rw [HSH.out.wt, HSH.out.wf, HSH.out.ok] at W4
    have TH := hide (fun W => thenSym_any t1 t2 f1 f2 W)
    generalize thT t1 t2 f2 = T3 at W3 TH
    generalize thF t1 f1 t2 f2 = F3 at W3 TH
    obtain ⟨uv, huv⟩ : ∃ q, u ++ v = q := ⟨_, rfl⟩
    obtain ⟨uz, huz⟩ : ∃ q, u ++ [0, 0] = q := ⟨_, rfl⟩
    rw [huv] at W3
    rw [huz] at W5 HTW
    have HUV := hide huv
    have HUZ := hide huz
    clear huv huz
    have W1 := hide W1
    have W2 := hide W2
    have W3 := hide W3
    have W4 := hide W4
    have W5 := hide W5
    have WF := hide WF
    have OX := hide (show OwnW w.heap.size w1 xv u from ownx)
    have OY := hide (show OwnW w.heap.size w1 yv v from owny)
    have HU := hide hu
    clear ownx owny hu hv hw1 hw2 hm1 hm2 hboth Y1 Y2 Y3 hhas hlet hs win1
    obtain ⟨ax, cx, rfl, rx⟩ := readsI_own OX.out
    obtain ⟨ay, cy, rfl, ry⟩ := readsI_own OY.out
    have RX := hide rx
    have RY := hide ry
    clear rx ry
    go_wp2_with fail
    with_reducible refine (W1.out _ _ _ RX.out).mono ?_
    rintro e w2 ⟨rfl, nb⟩
    have bel := belowOf bel nb
    have OX2 := hide (ownsBelowW OX.out nb)
    have OY2 := hide (ownsBelowW OY.out nb)
    have RY2 := hide (RY.out.below nb)
    clear nb RX RY OX OY
    have nbx : Below w2.heap.size w2 (w2.alloc (.cells #[.int .i64 t1, .bool f1] 26)) := (Below.refl _ _).alloc (Nat.le_refl _) _
    have OX := hide (ownsBelowW OX2.out nbx)
    have OY := hide (ownsBelowW OY2.out nbx)
    have RY := hide (RY2.out.below nbx)
    clear OX2 OY2 RY2 nbx
    go_wp2_with fail
    have g0 : ((w2.alloc (.cells #[.int .i64 t1, .bool f1] 26))).cell? ⟨w2.heap.size, 0, none⟩ = some (.int .i64 t1) := by go_simp
    have g1 : ((w2.alloc (.cells #[.int .i64 t1, .bool f1] 26))).cell? ⟨w2.heap.size, 1, none⟩ = some (.bool f1) := by go_simp
    have bel : Below w.heap.size w ((w2.alloc (.cells #[.int .i64 t1, .bool f1] 26))) := bel.alloc bel.size _
    generalize (w2.alloc (.cells #[.int .i64 t1, .bool f1] 26)) = wB at g0 g1 OX OY RY bel ⊢
    have hswB := bel.size
    with_reducible refine (W2.out _ _ _ RY.out).mono ?_
    rintro e w3 ⟨rfl, nb⟩
    have g0 := keepc nb g0
    have g1 := keepc nb g1
    have bel := belowOf bel nb
    have nbx : Below w3.heap.size w3 (w3.alloc (.cells #[.int .i64 t2, .bool f2] 26)) := (Below.refl _ _).alloc (Nat.le_refl _) _
    have OX := hide (ownsBelowW (ownsBelowW OX.out nb) nbx)
    have OY := hide (ownsBelowW (ownsBelowW OY.out nb) nbx)
    have hg3 : w2.heap.size < w3.heap.size := World.block_lt_of_cell? w3 _ g0
    clear nb RY W1 W2 nbx
    go_upto_region 6 with fail
    have g0 : ((w3.alloc (.cells #[.int .i64 t2, .bool f2] 26))).cell? ⟨w2.heap.size, 0, none⟩ = some (.int .i64 t1) := by go_simp
    have g1 : ((w3.alloc (.cells #[.int .i64 t2, .bool f2] 26))).cell? ⟨w2.heap.size, 1, none⟩ = some (.bool f1) := by go_simp
    have h0 : ((w3.alloc (.cells #[.int .i64 t2, .bool f2] 26))).cell? ⟨w3.heap.size, 0, none⟩ = some (.int .i64 t2) := by go_simp
    have h1 : ((w3.alloc (.cells #[.int .i64 t2, .bool f2] 26))).cell? ⟨w3.heap.size, 1, none⟩ = some (.bool f2) := by go_simp
    have bel : Below w.heap.size w ((w3.alloc (.cells #[.int .i64 t2, .bool f2] 26))) := bel.alloc bel.size _
    generalize (w3.alloc (.cells #[.int .i64 t2, .bool f2] 26)) = wC at g0 g1 h0 h1 OX OY bel ⊢
    have hswC := bel.size
    have hlit : (wC.alloc (.cells #[] 3)).ownsRow wC.heap.size 3 1 (.slice (some ⟨wC.heap.size, 0, none⟩) 0 0) 0 [] := World.ownsRow_lit wC #[] 0 (Nat.le_refl _) (by unfold maxLen; omega) rfl
    have nbl : Below wC.heap.size wC (wC.alloc (.cells #[] 3)) := (Below.refl _ _).alloc (Nat.le_refl _) _
    have OXl := ownsBelowW OX.out nbl
    have OYl := ownsBelowW OY.out nbl
    go_wp2_with (at_builtin; refine wpList_append_word _ rfl _ _ rfl wC.heap.size _ 0 [] rfl hlit _ u _ rfl OXl ?c1 ?c2 ?c3 ?_)
    case c1 => omega
    case c2 => omega
    case c3 => exact nbl.size
    intro v3 w4 hown4 hgrow4
    have nb4 := nbl.grown hgrow4 nbl.size (fun q hq => (hlit.lt q hq).1)
    have OYm := ownsBelowW OY.out nb4
    clear hgrow4 hlit nbl OXl OYl
    go_wp2_with (at_builtin; refine wpList_append_word _ rfl _ _ rfl wC.heap.size _ u.length (u.map (Value.int .i64)) rfl hown4 _ v _ rfl OYm ?c1 ?c2 ?c3 ?_)
    case c1 => omega
    case c2 => omega
    case c3 => exact nb4.size
    intro v5 w5 hown5 hgrow5
    have nb5 := nb4.grown hgrow5 nb4.size (fun q hq => (hown4.lt q hq).1)
    have O5 : OwnW wC.heap.size w5 v5 uv := by
      unfold OwnW
      rw [← HUV.out, List.length_append, List.map_append]
      exact hown5
    clear hown4 hown5 hgrow5 OYm nb4
    obtain ⟨a5, c5, rfl, r5⟩ := readsI_own O5
    have R5 := hide r5
    have g0 := keepc nb5 g0
    have g1 := keepc nb5 g1
    have h0 := keepc nb5 h0
    have h1 := keepc nb5 h1
    have OX5 := hide (ownsBelowW OX.out nb5)
    have bel := belowOf bel nb5
    clear r5 O5 nb5 OX OY
    go_wp2_with fail
    with_reducible refine (W3.out _ _ _ R5.out).mono ?_
    rintro e w6 ⟨rfl, nb⟩
    have g0 := keepc nb g0
    have g1 := keepc nb g1
    have h0 := keepc nb h0
    have h1 := keepc nb h1
    have bel := belowOf bel nb
    have nbx : Below w6.heap.size w6 (w6.alloc (.cells #[.int .i64 T3, .bool F3] 26)) := (Below.refl _ _).alloc (Nat.le_refl _) _
    have OX := hide (ownsBelowW (ownsBelowW OX5.out nb) nbx)
    have hg6 : w2.heap.size < w6.heap.size := World.block_lt_of_cell? w6 _ g0
    have hh6 : w3.heap.size < w6.heap.size := World.block_lt_of_cell? w6 _ h0
    clear nb R5 OX5 W3 nbx
    go_upto_region 7 with fail
    have g0 : ((w6.alloc (.cells #[.int .i64 T3, .bool F3] 26))).cell? ⟨w2.heap.size, 0, none⟩ = some (.int .i64 t1) := by go_simp
    have g1 : ((w6.alloc (.cells #[.int .i64 T3, .bool F3] 26))).cell? ⟨w2.heap.size, 1, none⟩ = some (.bool f1) := by go_simp
    have h0 : ((w6.alloc (.cells #[.int .i64 T3, .bool F3] 26))).cell? ⟨w3.heap.size, 0, none⟩ = some (.int .i64 t2) := by go_simp
    have h1 : ((w6.alloc (.cells #[.int .i64 T3, .bool F3] 26))).cell? ⟨w3.heap.size, 1, none⟩ = some (.bool f2) := by go_simp
    have b0 : ((w6.alloc (.cells #[.int .i64 T3, .bool F3] 26))).cell? ⟨w6.heap.size, 0, none⟩ = some (.int .i64 T3) := by go_simp
    have b1 : ((w6.alloc (.cells #[.int .i64 T3, .bool F3] 26))).cell? ⟨w6.heap.size, 1, none⟩ = some (.bool F3) := by go_simp
    have bel : Below w.heap.size w ((w6.alloc (.cells #[.int .i64 T3, .bool F3] 26))) := bel.alloc bel.size _
    generalize (w6.alloc (.cells #[.int .i64 T3, .bool F3] 26)) = wD at g0 g1 h0 h1 b0 b1 OX bel ⊢
    have hswD := bel.size
    have q3 : eqS2 T3 F3 T3 F3 = true := by unfold eqS2; simp
    have q1 : eqS2 t1 f1 t1 f1 = true := by unfold eqS2; simp
    have C1 := regC (w := wD) TH.out
    have k_g0 := cell_regrown g0
    have k_g1 := cell_regrown g1
    have k_h0 := cell_regrown h0
    have k_h1 := cell_regrown h1
    have k_b0 := cell_regrown b0
    have k_b1 := cell_regrown b1
    refine wp_region_below (by kernel_rfl) (by kernel_rfl) ?_
    repeat (go_big_quiet_step (first | (with_reducible exact C1 _ _)))
    refine wpQuiet_nil ?_
    intro wE nb
    clear k_g0 k_g1 k_h0 k_h1 k_b0 k_b1
    have g0 := keepc nb g0
    have g1 := keepc nb g1
    have nbk := nb
    have bel := belowOf bel nb
    clear nb
    clear C1 q3 TH h0 h1 b0 b1
    have OX := hide (ownsBelowW OX.out nbk)
    clear nbk
    go_wp2_with fail
    with_reducible refine (WF.out _).mono ?_
    rintro e w7 ⟨vs, rfl, hOs, nb⟩
    have hOs : OwnW wE.heap.size w7 vs s := hOs
    obtain ⟨as', cs', rfl, rs⟩ := readsI_own hOs
    have RS := hide rs
    have g0 := keepc nb g0
    have g1 := keepc nb g1
    have bel := belowOf bel nb
    have OX := hide (ownsBelowW OX.out nb)
    clear nb hOs rs WF
    have hle4 := HSH.out.le4
    have hleu := HSH.out.leu
    have hpar := HSH.out.par
    have HSL := hide (show s.length = s.length from rfl)
    generalize hns : s.length = ns at RS W4 hle4 hleu hpar ⊢
    have HX := hide (fun k1 (e : kind = k1) => e)
    have i1 : decide ((4 : Int) < (ns : Int)) = false := decide_eq_false (by omega)
    have i2 : decide ((u.length : Int) < (ns : Int)) = false := decide_eq_false (by omega)
    have i3 : ((u.length : Int) % 2 == (ns : Int) % 2) = true := by rw [beq_iff_eq]; omega
    have i4 : (u.length : Int) % 2 = (ns : Int) % 2 := by omega
    have i5 : ¬ ((4 : Int) < (ns : Int)) := by omega
    have i6 : ¬ ((u.length : Int) < (ns : Int)) := by omega
    clear hns HSL HX hpar
    go_wp2_with fail
    with_reducible refine (W4.out _ _ _ RS.out).mono ?_
    rintro e w8 ⟨rfl, nb⟩
    have g0 := keepc nb g0
    have g1 := keepc nb g1
    have bel := belowOf bel nb
    have nbx : Below w8.heap.size w8 (w8.alloc (.cells #[.int .i64 t1, .bool f1] 26)) := (Below.refl _ _).alloc (Nat.le_refl _) _
    have OX := hide (ownsBelowW (ownsBelowW OX.out nb) nbx)
    have hg8 : w2.heap.size < w8.heap.size := World.block_lt_of_cell? w8 _ g0
    clear nb RS W4 nbx
    go_upto_region 11 with fail
    have g0 : ((w8.alloc (.cells #[.int .i64 t1, .bool f1] 26))).cell? ⟨w2.heap.size, 0, none⟩ = some (.int .i64 t1) := by go_simp
    have g1 : ((w8.alloc (.cells #[.int .i64 t1, .bool f1] 26))).cell? ⟨w2.heap.size, 1, none⟩ = some (.bool f1) := by go_simp
    have a0 : ((w8.alloc (.cells #[.int .i64 t1, .bool f1] 26))).cell? ⟨w8.heap.size, 0, none⟩ = some (.int .i64 t1) := by go_simp
    have a1 : ((w8.alloc (.cells #[.int .i64 t1, .bool f1] 26))).cell? ⟨w8.heap.size, 1, none⟩ = some (.bool f1) := by go_simp
    have bel : Below w.heap.size w ((w8.alloc (.cells #[.int .i64 t1, .bool f1] 26))) := bel.alloc bel.size _
    generalize (w8.alloc (.cells #[.int .i64 t1, .bool f1] 26)) = wF at g0 g1 a0 a1 OX bel ⊢
    have hswF := bel.size
    by_cases hk0 : kind = 0
    · subst hk0
      have hu0 : u.length = 0 := by
        cases hul0 : u with
        | nil => rfl
        | cons y u' =>
          have := HU.out.2 y (by rw [hul0]; simp)
          omega
      have hu1 : (u.length : Int) = 0 := by omega
      have hns0 : ns = 0 := by omega
      subst hns0
      go_wp2_with fail
      go_ret
      exact ⟨by simp [hu0], bel⟩
    · have hkb : (kind == 0) = false := by simp [hk0]
      obtain ⟨y1, y2, y3⟩ := HTW.out (by omega)
      rw [y1, y2, y3] at W5
      have hki : ¬ kind = 0 := hk0
      clear y1 y2 y3 HTW
      go_upto_region 15 with fail
      have hlit : (wF.alloc (.cells #[] 3)).ownsRow wF.heap.size 3 1 (.slice (some ⟨wF.heap.size, 0, none⟩) 0 0) 0 [] := World.ownsRow_lit wF #[] 0 (Nat.le_refl _) (by unfold maxLen; omega) rfl
      have nbl : Below wF.heap.size wF (wF.alloc (.cells #[] 3)) := (Below.refl _ _).alloc (Nat.le_refl _) _
      have OXl := ownsBelowW OX.out nbl
      obtain ⟨iI, hiI, hzI0, hzI1, hzI2⟩ := infoPartsW Try.infoInt
      go_wp2_with (at_builtin; refine wpList_append_word _ rfl _ _ rfl wF.heap.size _ 0 [] rfl hlit _ u _ rfl OXl ?c1 ?c2 ?c3 ?_)
      case c1 => omega
      case c2 => omega
      case c3 => exact nbl.size
      intro v3 w4 hown4 hgrow4
      have nb4 := nbl.grown hgrow4 nbl.size (fun q hq => (hlit.lt q hq).1)
      have nbz : Below w4.heap.size w4 (w4.alloc (.cells #[.int .i64 0, .int .i64 0] 3)) := (Below.refl _ _).alloc (Nat.le_refl _) _
      have hown4z := ownsBelowW hown4 nbz
      have nb4z := belowOf nb4 nbz
      clear hgrow4 hlit nbl OXl hown4
      go_wp2_with (at_builtin; refine wpList_append_own _ rfl _ _ 42 rfl wF.heap.size 3 iI (.int .i64 0) 1 8 Try.underlying42 hiI hzI0 hzI1 hzI2 rfl (by decide) _ u.length (u.map (Value.int .i64)) rfl hown4z ⟨w4.heap.size, 0, none⟩ 2 2 [.int .i64 0, .int .i64 0] rfl rfl ?c1 ?c2 ?c3 ?c4 ?c5 ?_)
      case c1 =>
        intro j y hj
        match j, hj with
        | 0, hj => simp at hj; subst hj; simp only [Addr.add]; go_simp
        | 1, hj => simp at hj; subst hj; simp only [Addr.add]; go_simp
      case c2 => intro y hy; simp at hy; subst hy; rfl
      case c3 => unfold maxLen; omega
      case c4 => omega
      case c5 => exact nb4z.size
      intro v5 w5 hown5 hgrow5 _
      have nb5 := nb4z.grown hgrow5 nb4z.size (fun q hq => (hown4z.lt q hq).1)
      have O5 : OwnW wF.heap.size w5 v5 uz := by
        unfold OwnW
        rw [← HUZ.out, List.length_append, List.map_append]
        exact hown5
      clear hown4z hown5 hgrow5 nb4 nbz nb4z
      obtain ⟨a5, c5, rfl, r5⟩ := readsI_own O5
      have R5 := hide r5
      have g0 := keepc nb5 g0
      have g1 := keepc nb5 g1
      have bel := belowOf bel nb5
      clear r5 O5 nb5 OX a0 a1
      go_wp2_with fail
      with_reducible refine (W5.out _ _ _ R5.out).mono ?_
      rintro e w6 ⟨rfl, nb⟩
      have g0 := keepc nb g0
      have g1 := keepc nb g1
      have bel := belowOf bel nb
      have hg6 : w2.heap.size < w6.heap.size := World.block_lt_of_cell? w6 _ g0
      clear nb R5 W5
      go_upto_region 16 with fail
      have g0 : ((w6.alloc (.cells #[.int .i64 t1, .bool f1] 26))).cell? ⟨w2.heap.size, 0, none⟩ = some (.int .i64 t1) := by go_simp
      have g1 : ((w6.alloc (.cells #[.int .i64 t1, .bool f1] 26))).cell? ⟨w2.heap.size, 1, none⟩ = some (.bool f1) := by go_simp
      have a0 : ((w6.alloc (.cells #[.int .i64 t1, .bool f1] 26))).cell? ⟨w6.heap.size, 0, none⟩ = some (.int .i64 t1) := by go_simp
      have a1 : ((w6.alloc (.cells #[.int .i64 t1, .bool f1] 26))).cell? ⟨w6.heap.size, 1, none⟩ = some (.bool f1) := by go_simp
      have bel : Below w.heap.size w ((w6.alloc (.cells #[.int .i64 t1, .bool f1] 26))) := bel.alloc bel.size _
      generalize (w6.alloc (.cells #[.int .i64 t1, .bool f1] 26)) = wG at g0 g1 a0 a1 bel ⊢
      have hswG := bel.size
      go_wp2_with fail
      go_ret
      exact ⟨rfl, bel⟩

open Go.ChangeShapes Go.WideShapes Go.ChangeAt Go.Joins
open Go.ChangeMaps (open_string shut_string)

set_option maxRecDepth 100000 in
theorem fnWords_lifted (os : Os) (started : os.Started) (H : Type) (enc : TypeId × Value → H) :
    ReturnsInHanded {} Try.checked os 13 .any (Rows.fnWordsSpec.pre6 enc Try.prog Try.f13 Rows.fnWordsRow.domain false) (Rows.fnWordsSpec.post enc Try.prog Try.f13 false true false false) := by
  refine returnsInHanded_of_change (C := Try.checked) Try.own started (by kernel_rfl) Try.func13
    (ChangeSpec.witness6 (enc := enc) (C := Try.checked) false ⟨#[], #[.slice none 0 0], []⟩ 8 (by kernel_rfl) (by kernel_rfl) (by kernel_rfl) (by kernel_rfl)) ?_
  intro W base args ds gs before hval0 hW _ _
  have hval : ∀ (j : Nat) t v, Try.f13.params[j]? = some t → args[j]? = some v → Value.okWide Try.prog W .any base t v := hval0
  have hW' := hW
  obtain ⟨p, q, hA0, hV, rfl, _, _⟩ := hW
  have hA : DataW.TrodAll enc Try.prog W 0 (fun _ => true) true Try.f13.params.toList args.toList ds p := hA0
  rw [Try.params13] at hA hval
  obtain ⟨v0, vs0, d0, ds0, p0, q0, hargs, rfl, rfl, h0, r0⟩ := trodAll_cons hA
  obtain ⟨rfl, rfl, rfl⟩ := trodAll_nil r0
  obtain rfl : args = #[v0] := by cases args; simp_all
  obtain ⟨rfl, rfl⟩ := trodVars_none hV
  have k0 := h0
  have lt0 : ∀ x ∈ p0, x.block < W.heap.size := by obtain ⟨m, hm⟩ := k0; exact DataW.trod_lt m _ _ _ hm
  obtain ⟨a0, len0, cap0, rfl⟩ := okWide_slice Try.underlying47 (hval 0 47 v0 rfl rfl)
  obtain ⟨z0, w0⟩ : ∃ zs, IsRow .u8 W a0 len0 cap0 zs := by
    obtain ⟨fuel, hf⟩ := h0
    rcases open_ints Try.underlying47 Try.underlying5 (by kernel_rfl) hf with ⟨hcs, _⟩ | ⟨x, l, c, zs, hcs, _, hl, hm, hz, _, hcell, hwz⟩
    · simp [Value.cells] at hcs
      obtain ⟨rfl, rfl, rfl⟩ := hcs
      exact ⟨[], .inl ⟨rfl, rfl, rfl, rfl⟩⟩
    · simp [Value.cells] at hcs
      obtain ⟨rfl, rfl, rfl⟩ := hcs
      exact ⟨zs, .inr ⟨_, rfl, hl, hm, by simpa using hz, hcell, hwz⟩⟩
  clear hA0 hval0
  refine (FnWords_walk a0 len0 cap0 z0 W w0).mono fun e W' ⟨he, bel⟩ => ?_
  subst he
  exact ⟨_, rfl, _, _, _, [], _, [], hW', trodAll_mk1 (shut_bool Try.underlying4 _), (trodAll_cons_mk (Below.trod Try.laidOut (by kernel_rfl) (of_decide_eq_true (by kernel_rfl)) k0 bel lt0) trodAll_mk0), rfl, bel.frame _, fun h => by cases h⟩

/-- The statement. -/
theorem fnWords_proved : Rows.FnWordsSaid :=
  OpenClaim.holds_of_wide 13 Try.f13 rfl rfl rfl rfl rfl rfl rfl ⟨rfl, rfl, rfl, rfl, rfl⟩ rfl rfl rfl rfl rfl (by kernel_rfl) Try.func13 (by kernel_rfl)
    (of_decide_eq_true (by kernel_rfl)) (by unfold Func.isWrapper; rw [if_neg (of_decide_eq_false (by kernel_rfl))]; exact ⟨rfl, rfl⟩)
    (fun os started H enc _ => fnWords_lifted os started H enc)
#print axioms fnWords_proved

end Go.Proofs.Ytnpgdijafmkmkaa
