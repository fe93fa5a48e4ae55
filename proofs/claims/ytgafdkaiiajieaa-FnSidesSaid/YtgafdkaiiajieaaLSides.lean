/- The law FnSides: sides are turned with all three points, and change their sign with a mirror. No condition. -/
import Derived.Test.YtgafdkaiiajieaaSidesP
import Derived.Test.YtgafdkaiiajieaaHasShd
import Derived.Test.YtgafdkaiiajieaaGlassE
import Derived.Test.YtgafdkaiiajieaaDrawSy
import Derived.Test.YtgafdkaiiajieaaBig
namespace Go.Proofs.Ytgafdkaiiajieaa
open Go.RowKit Go.Sort
open Fl

set_option maxRecDepth 100000 in
set_option maxHeartbeats 4000000 in
theorem FnSides_walk (a : Option Addr) (len cap : Nat) (z : List Int) (w : World) (hz : IsRow .u8 w a len cap z) :
    Calls Try.prog 8 #[.slice a len cap] w fun e w' => e = .returned (.bool true) ∧ Below w.heap.size w w' := by
  have HC := hide (isCode_of_row hz)
  have hm := (isCode_of_row hz).1
  clear hz
  by_cases hb : 4096 < len
  · go_enter Try.func8, Try.ntmps8
    go_wp2_with fail
    refine (big_any _ _ _ _).mono ?_
    rintro e w' ⟨rfl, rfl⟩
    go_wp2_with fail
    go_ret
    exact ⟨rfl, Below.refl _ _⟩
  · go_enter Try.func8, Try.ntmps8
    go_wp2_with fail
    refine (big_any _ _ _ _).mono ?_
    rintro e w' ⟨rfl, rfl⟩
    go_wp2_with fail
    refine (drawGlass_any _ _ _ _ HC.out).mono ?_
    rintro e w1 ⟨v, l, x, y, r, g, b, rfl, hl6, hok, hpt, hcol, own, bel⟩
    obtain ⟨av, cv, rfl, hr, hav⟩ := readsSh_of_own own
    have HOK := hide hok
    have HPT := hide hpt
    have HR := hide hr
    generalize hn : l.length = n at HR hl6 ⊢
    clear hok hpt hr own hav hn hcol
    go_wp2_with fail
    have nb : Below w1.heap.size w1 (w1.alloc (.cells #[.float .f32 r, .float .f32 g, .float .f32 b] 41)) := (Below.refl _ _).alloc (Nat.le_refl _) _
    have bel := belowOf bel nb
    have HR := hide (HR.out.below nb)
    generalize w1.alloc (.cells #[.float .f32 r, .float .f32 g, .float .f32 b] 41) = wA at bel HR ⊢
    clear nb
    refine (drawSyms_any _ _ _ _ (isCode_belowC HC.out bel)).mono ?_
    rintro e w2 ⟨t, t2, t3, f, f2, f3, rfl, h1, h2, h3, hb2⟩
    have bel := belowOf bel hb2
    have HR := hide (HR.out.below hb2)
    have HT := hide h1
    clear h1 h2 h3 hb2
    go_wp2_with fail
    have HG : Hid ((((w2.alloc (.cells #[.int .i64 t, .bool f] 28)).alloc (.cells #[.int .i64 t2, .bool f2] 28)).alloc (.cells #[.int .i64 t3, .bool f3] 28)).cell? ⟨w2.heap.size, 0, none⟩ = some (.int .i64 t) ∧ (((w2.alloc (.cells #[.int .i64 t, .bool f] 28)).alloc (.cells #[.int .i64 t2, .bool f2] 28)).alloc (.cells #[.int .i64 t3, .bool f3] 28)).cell? ⟨w2.heap.size, 1, none⟩ = some (.bool f)) := ⟨by go_simp, by go_simp⟩
    have nb : Below w2.heap.size w2 (((w2.alloc (.cells #[.int .i64 t, .bool f] 28)).alloc (.cells #[.int .i64 t2, .bool f2] 28)).alloc (.cells #[.int .i64 t3, .bool f3] 28)) := (((Below.refl _ _).alloc (Nat.le_refl _) _).alloc (by simp) _).alloc (by simp; omega) _
    have bel := belowOf bel nb
    have HR := hide (HR.out.below nb)
    generalize (((w2.alloc (.cells #[.int .i64 t, .bool f] 28)).alloc (.cells #[.int .i64 t2, .bool f2] 28)).alloc (.cells #[.int .i64 t3, .bool f3] 28)) = wS at bel HR HG ⊢
    clear nb
    go_loopw [9] (fun i wr => ∃ k : Nat, k ≤ n ∧ i = .int .i64 k ∧ Below wS.heap.size wS wr) (fun i _ => n - (intOf i).toNat)
    case atStart => exact ⟨0, Nat.zero_le _, rfl, Below.refl _ _⟩
    case round =>
      obtain ⟨k, hk, rfl, hb1⟩ := hrel
      have belw := bel
      have bel := hb1
      clear hb1
      by_cases hlt : k < n
      · obtain ⟨gm, s, rfl, hs, hat, _⟩ := (HR.out.below bel).at hlt
        have hsok := HOK.out s hs
        have hpt := HPT.out
        have ht := HT.out
        have hs2 := actS_ok t f hsok
        have hp2 := (act_ok t f hpt).1.pt
        have g0 := keepc bel HG.out.1
        have g1 := keepc bel HG.out.2
        have M1 := hide (fun W => sideOf_pt s.ax s.ay s.bx s.b_y x y W hsok.pa hsok.pb hpt)
        have A1 := hide (fun W => actSym_y t f s.ax s.ay W ht hsok.pa)
        have A2 := hide (fun W => actSym_y t f s.bx s.b_y W ht hsok.pb)
        have A3 := hide (fun W => actSym_y t f x y W ht hpt)
        have M2 := hide (fun W => sideOf_pt _ _ _ _ _ _ W (act_ok t f hsok.pa).1.pt (act_ok t f hsok.pb).1.pt hp2)
        have M3 := hide (fun W => actShard_any t f s W ht hsok)
        have I1 := hide (isShard_y hs2)
        have I2 := hide (fun W => inShard_any s x y W hsok hpt)
        have I3 := hide (inShard_act t f hsok hpt)
        have EQ := hide (side_eq t f hsok.pa hsok.pb hpt)
        obtain ⟨ax, ay, bx, b_y, cx, cy, r, g, b, ck⟩ := s
        obtain ⟨c0, c1, c2, c3, c4, c5, c6⟩ := hat
        unfold actS at M3 I1 I3
        simp only at c0 c1 c2 c3 c4 c5 c6 M1 A1 A2 A3 M2 M3 I1 I2 I3 EQ
        generalize liesW ⟨ax, ay, bx, b_y, cx, cy, r, g, b, ck⟩ x y = ly at I2 I3
        generalize (actW t f ax ay).1 = ax' at A1 M2 M3 I1 I3 EQ
        generalize (actW t f ax ay).2 = ay' at A1 M2 M3 I1 I3 EQ
        generalize (actW t f bx b_y).1 = bx' at A2 M2 M3 I1 I3 EQ
        generalize (actW t f bx b_y).2 = by' at A2 M2 M3 I1 I3 EQ
        generalize (actW t f cx cy).1 = cx' at M3 I1 I3 EQ
        generalize (actW t f cx cy).2 = cy' at M3 I1 I3 EQ
        generalize (actW t f x y).1 = px' at A3 M2 I3 EQ
        generalize (actW t f x y).2 = py' at A3 M2 I3 EQ
        generalize sideW ax ay bx b_y x y = sX at M1 EQ
        generalize sideW ax' ay' bx' by' px' py' = sY at M2 EQ
        clear hs hsok hpt ht hs2 hp2 HOK HPT HT HC HR HG
        go_upto_region 8 with fail
        have C1 := regE (w := wr) M1.out
        have k_c0 := cell_regrown c0
        have k_c1 := cell_regrown c1
        have k_c2 := cell_regrown c2
        have k_c3 := cell_regrown c3
        have k_c4 := cell_regrown c4
        have k_c5 := cell_regrown c5
        have k_c6 := cell_regrown c6
        refine wp_region_below_tail 11 (by kernel_rfl) (by kernel_rfl) ?_
        simp only [List.take_succ_cons, List.take_zero, List.drop_succ_cons, List.drop_zero]
        repeat (go_big_quiet_step (first | (with_reducible exact C1 _ _)))
        refine wpQuiet_nil ?_
        intro w3 nb
        clear k_c0 k_c1 k_c2 k_c3 k_c4 k_c5 k_c6
        have c0 := keepc nb c0
        have c1 := keepc nb c1
        have c2 := keepc nb c2
        have c3 := keepc nb c3
        have c4 := keepc nb c4
        have c5 := keepc nb c5
        have c6 := keepc nb c6
        have g0 := keepc nb g0
        have g1 := keepc nb g1
        have bel := belowOf bel nb
        clear nb
        clear C1
        go_wp2_with fail
        refine (M1.out _).mono ?_
        rintro e w4 ⟨rfl, rfl⟩
        go_wp2_with fail
        have C1 := regC (w := w3) A1.out
        have C2 := regC (w := w3) A2.out
        have C3 := regC (w := w3) A3.out
        have C4 := regE (w := w3) M2.out
        have k_c0 := cell_regrown c0
        have k_c1 := cell_regrown c1
        have k_g0 := cell_regrown g0
        have k_g1 := cell_regrown g1
        refine wp_region_below_tail 18 (by kernel_rfl) (by kernel_rfl) ?_
        simp only [List.take_succ_cons, List.take_zero, List.drop_succ_cons, List.drop_zero]
        repeat (go_big_quiet_step (first | (with_reducible exact C1 _ _) | (with_reducible exact C2 _ _) | (with_reducible exact C3 _ _) | (with_reducible exact C4 _ _)))
        refine wpQuiet_nil ?_
        intro w4 nb
        clear k_c0 k_c1 k_g0 k_g1
        have c0 := keepc nb c0
        have c1 := keepc nb c1
        have c2 := keepc nb c2
        have c3 := keepc nb c3
        have c4 := keepc nb c4
        have c5 := keepc nb c5
        have c6 := keepc nb c6
        have g0 := keepc nb g0
        have g1 := keepc nb g1
        have bel := belowOf bel nb
        clear nb
        clear C1 C2 C3 C4
        go_upto_region 10 with fail
        cases f
        · have eq := EQ.out
          rw [if_neg Bool.false_ne_true] at eq
          go_upto_region 12 with fail
          clear eq
          have hgm : gm < w4.heap.size := World.block_lt_of_cell? w4 _ c0
          have hg2 : w2.heap.size < w4.heap.size := World.block_lt_of_cell? w4 _ g0
          have hgm1 : gm < w4.heap.size + 1 := by omega
          have hg21 : w2.heap.size < w4.heap.size + 1 := by omega
          have hgn : gm ≠ w4.heap.size := by omega
          have hg2n : w2.heap.size ≠ w4.heap.size := by omega
          go_cut [12] from 81 to 87 (fun s12 wx => ∃ p, s12 = .pointer (some ⟨p, 0, none⟩) ∧ HasShd w4 wx p ax' ay' bx' by' cx' cy' r g b ck)
          case first =>
            go_region_held3 (fun w' => w'.cell? ⟨w2.heap.size, 0, none⟩ = some (.int .i64 t) ∧ w'.cell? ⟨w2.heap.size, 1, none⟩ = some (.bool false) ∧ w'.cell? ⟨gm, k * 7, none⟩ = some (.complex .f32 ax ay) ∧ w'.cell? ⟨gm, k * 7 + 1, none⟩ = some (.complex .f32 bx b_y) ∧ w'.cell? ⟨gm, k * 7 + 2, none⟩ = some (.complex .f32 cx cy) ∧ w'.cell? ⟨gm, k * 7 + 3, none⟩ = some (.float .f32 r) ∧ w'.cell? ⟨gm, k * 7 + 4, none⟩ = some (.float .f32 g) ∧ w'.cell? ⟨gm, k * 7 + 5, none⟩ = some (.float .f32 b) ∧ w'.cell? ⟨gm, k * 7 + 6, none⟩ = some (.float .f32 ck))
              ((refine (show Below w4.heap.size w4 _ → _ from fun hk => ⟨keepc hk g0, keepc hk g1, keepc hk c0, keepc hk c1, keepc hk c2, keepc hk c3, keepc hk c4, keepc hk c5, keepc hk c6⟩) ?_; first | (with_reducible exact Below.refl _ _) | (with_reducible exact (Below.refl _ _).drew) | (with_reducible exact ((Below.refl _ _).alloc (Nat.le_refl _) _)) | (with_reducible exact ((Below.refl _ _).alloc (Nat.le_refl _) _).drew) | (with_reducible exact bw5) | (with_reducible exact bw5.drew) | (with_reducible exact bw5.alloc bw5.size _) | (with_reducible exact (bw5.alloc bw5.size _).drew) | (with_reducible exact ((((((bw5.setCell (Nat.le_refl _) _).setCell (Nat.le_refl _) _).setCell (Nat.le_refl _) _).setCell (Nat.le_refl _) _).setCell (Nat.le_refl _) _).setCell (Nat.le_refl _) _).setCell (Nat.le_refl _) _)))
              (first | (go_at_call 33; (with_reducible refine (M3.out _).mono ?_); rintro e w5 ⟨rfl, hb5⟩; have bw5 := belowOf (w := w4) (by first | (with_reducible exact Below.refl _ _) | (with_reducible exact (Below.refl _ _).drew) | (with_reducible exact ((Below.refl _ _).alloc (Nat.le_refl _) _)) | (with_reducible exact ((Below.refl _ _).alloc (Nat.le_refl _) _).drew) | (with_reducible exact ((Below.refl _ _).drew.alloc (Nat.le_refl _) _))) hb5; have hw5 := bw5.size; have hq5 : gm < w5.heap.size := Nat.lt_of_lt_of_le hgm hw5; have hp5 : w2.heap.size < w5.heap.size := Nat.lt_of_lt_of_le hg2 hw5; obtain ⟨hc5, hf5⟩ := bcell hb5))
            all_goals (go_wp2_with fail; go_meet)
            all_goals
              first
                | (with_reducible exact ⟨_, rfl, hasShd_new bw5⟩)
                | (refine ⟨_, rfl, hasShd_set hb5 bw5 (u0 := .complex .f32 0 0) (u1 := .complex .f32 0 0) (u2 := .complex .f32 0 0) (u3 := .float .f32 0) (u4 := .float .f32 0) (u5 := .float .f32 0) (u6 := .float .f32 0) ?_ ?_ ?_ ?_ ?_ ?_ ?_ ?_⟩
                   · go_simp
                   · go_simp
                   · go_simp
                   · go_simp
                   · go_simp
                   · go_simp
                   · go_simp
                   · first | exact Nat.le_refl _ | omega)
          case rest =>
            obtain ⟨pS, rfl, ⟨s0, s1, s2, s3, s4, s5, s6, nb⟩⟩ := hcut
            have c0 := keepc nb c0
            have c1 := keepc nb c1
            have c2 := keepc nb c2
            have c3 := keepc nb c3
            have c4 := keepc nb c4
            have c5 := keepc nb c5
            have c6 := keepc nb c6
            have g0 := keepc nb g0
            have g1 := keepc nb g1
            have bel := belowOf bel nb
            clear nb
            obtain ⟨w5, rfl⟩ : ∃ w5 : World, w5 = wc := ⟨_, rfl⟩
            go_upto_region 13 with fail
            have C1 := regC (w := w5) I1.out
            have C2 := regC (w := w5) A3.out
            have C3 := regC (w := w5) I3.out
            have C4 := regC (w := w5) I2.out
            have k_c0 := cell_regrown c0
            have k_c1 := cell_regrown c1
            have k_c2 := cell_regrown c2
            have k_c3 := cell_regrown c3
            have k_c4 := cell_regrown c4
            have k_c5 := cell_regrown c5
            have k_c6 := cell_regrown c6
            have k_s0 := cell_regrown s0
            have k_s1 := cell_regrown s1
            have k_s2 := cell_regrown s2
            have k_s3 := cell_regrown s3
            have k_s4 := cell_regrown s4
            have k_s5 := cell_regrown s5
            have k_s6 := cell_regrown s6
            have k_g0 := cell_regrown g0
            have k_g1 := cell_regrown g1
            refine wp_region_below (by kernel_rfl) (by kernel_rfl) ?_
            repeat (go_big_quiet_step (first | (with_reducible exact C1 _ _) | (with_reducible exact C2 _ _) | (with_reducible exact C3 _ _) | (with_reducible exact C4 _ _)))
            refine wpQuiet_nil ?_
            intro w6 nb
            clear k_c0 k_c1 k_c2 k_c3 k_c4 k_c5 k_c6 k_s0 k_s1 k_s2 k_s3 k_s4 k_s5 k_s6 k_g0 k_g1
            have c0 := keepc nb c0
            have bel := belowOf bel nb
            clear nb
            clear C1 C2 C3 C4 s0 s1 s2 s3 s4 s5 s6 c1 c2 c3 c4 c5 c6 g0 g1
            go_wp2_with fail
            go_roundw
            case rel => exact ⟨k + 1, by omega, by go_num, bel⟩
            case measure => simp [intOf]; omega
        · have eq := EQ.out
          rw [if_pos rfl] at eq
          obtain ⟨sN, hsN⟩ : ∃ q, Op.negFloat .f32 sX = q := ⟨_, rfl⟩
          rw [hsN] at eq
          have hng : ∀ w, (Op.unary .neg (.float .f32 sX)).run Try.prog w = .ok (.float .f32 sN) w := fun w => by rw [← hsN]; rfl
          clear hsN
          go_upto_region 12 with fail
          clear eq hng
          have hgm : gm < w4.heap.size := World.block_lt_of_cell? w4 _ c0
          have hg2 : w2.heap.size < w4.heap.size := World.block_lt_of_cell? w4 _ g0
          have hgm1 : gm < w4.heap.size + 1 := by omega
          have hg21 : w2.heap.size < w4.heap.size + 1 := by omega
          have hgn : gm ≠ w4.heap.size := by omega
          have hg2n : w2.heap.size ≠ w4.heap.size := by omega
          go_cut [12] from 81 to 87 (fun s12 wx => ∃ p, s12 = .pointer (some ⟨p, 0, none⟩) ∧ HasShd w4 wx p ax' ay' bx' by' cx' cy' r g b ck)
          case first =>
            go_region_held3 (fun w' => w'.cell? ⟨w2.heap.size, 0, none⟩ = some (.int .i64 t) ∧ w'.cell? ⟨w2.heap.size, 1, none⟩ = some (.bool true) ∧ w'.cell? ⟨gm, k * 7, none⟩ = some (.complex .f32 ax ay) ∧ w'.cell? ⟨gm, k * 7 + 1, none⟩ = some (.complex .f32 bx b_y) ∧ w'.cell? ⟨gm, k * 7 + 2, none⟩ = some (.complex .f32 cx cy) ∧ w'.cell? ⟨gm, k * 7 + 3, none⟩ = some (.float .f32 r) ∧ w'.cell? ⟨gm, k * 7 + 4, none⟩ = some (.float .f32 g) ∧ w'.cell? ⟨gm, k * 7 + 5, none⟩ = some (.float .f32 b) ∧ w'.cell? ⟨gm, k * 7 + 6, none⟩ = some (.float .f32 ck))
              ((refine (show Below w4.heap.size w4 _ → _ from fun hk => ⟨keepc hk g0, keepc hk g1, keepc hk c0, keepc hk c1, keepc hk c2, keepc hk c3, keepc hk c4, keepc hk c5, keepc hk c6⟩) ?_; first | (with_reducible exact Below.refl _ _) | (with_reducible exact (Below.refl _ _).drew) | (with_reducible exact ((Below.refl _ _).alloc (Nat.le_refl _) _)) | (with_reducible exact ((Below.refl _ _).alloc (Nat.le_refl _) _).drew) | (with_reducible exact bw5) | (with_reducible exact bw5.drew) | (with_reducible exact bw5.alloc bw5.size _) | (with_reducible exact (bw5.alloc bw5.size _).drew) | (with_reducible exact ((((((bw5.setCell (Nat.le_refl _) _).setCell (Nat.le_refl _) _).setCell (Nat.le_refl _) _).setCell (Nat.le_refl _) _).setCell (Nat.le_refl _) _).setCell (Nat.le_refl _) _).setCell (Nat.le_refl _) _)))
              (first | (go_at_call 33; (with_reducible refine (M3.out _).mono ?_); rintro e w5 ⟨rfl, hb5⟩; have bw5 := belowOf (w := w4) (by first | (with_reducible exact Below.refl _ _) | (with_reducible exact (Below.refl _ _).drew) | (with_reducible exact ((Below.refl _ _).alloc (Nat.le_refl _) _)) | (with_reducible exact ((Below.refl _ _).alloc (Nat.le_refl _) _).drew) | (with_reducible exact ((Below.refl _ _).drew.alloc (Nat.le_refl _) _))) hb5; have hw5 := bw5.size; have hq5 : gm < w5.heap.size := Nat.lt_of_lt_of_le hgm hw5; have hp5 : w2.heap.size < w5.heap.size := Nat.lt_of_lt_of_le hg2 hw5; obtain ⟨hc5, hf5⟩ := bcell hb5))
            all_goals (go_wp2_with fail; go_meet)
            all_goals
              first
                | (with_reducible exact ⟨_, rfl, hasShd_new bw5⟩)
                | (refine ⟨_, rfl, hasShd_set hb5 bw5 (u0 := .complex .f32 0 0) (u1 := .complex .f32 0 0) (u2 := .complex .f32 0 0) (u3 := .float .f32 0) (u4 := .float .f32 0) (u5 := .float .f32 0) (u6 := .float .f32 0) ?_ ?_ ?_ ?_ ?_ ?_ ?_ ?_⟩
                   · go_simp
                   · go_simp
                   · go_simp
                   · go_simp
                   · go_simp
                   · go_simp
                   · go_simp
                   · first | exact Nat.le_refl _ | omega)
          case rest =>
            obtain ⟨pS, rfl, ⟨s0, s1, s2, s3, s4, s5, s6, nb⟩⟩ := hcut
            have c0 := keepc nb c0
            have c1 := keepc nb c1
            have c2 := keepc nb c2
            have c3 := keepc nb c3
            have c4 := keepc nb c4
            have c5 := keepc nb c5
            have c6 := keepc nb c6
            have g0 := keepc nb g0
            have g1 := keepc nb g1
            have bel := belowOf bel nb
            clear nb
            obtain ⟨w5, rfl⟩ : ∃ w5 : World, w5 = wc := ⟨_, rfl⟩
            go_upto_region 13 with fail
            have C1 := regC (w := w5) I1.out
            have C2 := regC (w := w5) A3.out
            have C3 := regC (w := w5) I3.out
            have C4 := regC (w := w5) I2.out
            have k_c0 := cell_regrown c0
            have k_c1 := cell_regrown c1
            have k_c2 := cell_regrown c2
            have k_c3 := cell_regrown c3
            have k_c4 := cell_regrown c4
            have k_c5 := cell_regrown c5
            have k_c6 := cell_regrown c6
            have k_s0 := cell_regrown s0
            have k_s1 := cell_regrown s1
            have k_s2 := cell_regrown s2
            have k_s3 := cell_regrown s3
            have k_s4 := cell_regrown s4
            have k_s5 := cell_regrown s5
            have k_s6 := cell_regrown s6
            have k_g0 := cell_regrown g0
            have k_g1 := cell_regrown g1
            refine wp_region_below (by kernel_rfl) (by kernel_rfl) ?_
            repeat (go_big_quiet_step (first | (with_reducible exact C1 _ _) | (with_reducible exact C2 _ _) | (with_reducible exact C3 _ _) | (with_reducible exact C4 _ _)))
            refine wpQuiet_nil ?_
            intro w6 nb
            clear k_c0 k_c1 k_c2 k_c3 k_c4 k_c5 k_c6 k_s0 k_s1 k_s2 k_s3 k_s4 k_s5 k_s6 k_g0 k_g1
            have c0 := keepc nb c0
            have bel := belowOf bel nb
            clear nb
            clear C1 C2 C3 C4 s0 s1 s2 s3 s4 s5 s6 c1 c2 c3 c4 c5 c6 g0 g1
            go_wp2_with fail
            go_roundw
            case rel => exact ⟨k + 1, by omega, by go_num, bel⟩
            case measure => simp [intOf]; omega
      · obtain rfl : k = n := by omega
        go_wp2_with fail
        go_ret
        exact ⟨rfl, belowOf belw bel⟩

open Go.ChangeShapes Go.WideShapes Go.ChangeAt Go.Joins
open Go.ChangeMaps (open_string shut_string)

set_option maxRecDepth 100000 in
theorem fnSides_lifted (os : Os) (started : os.Started) (H : Type) (enc : TypeId × Value → H) :
    ReturnsInHanded {} Try.checked os 8 .any (Rows.fnSidesSpec.pre6 enc Try.prog Try.f8 Rows.fnSidesRow.domain false) (Rows.fnSidesSpec.post enc Try.prog Try.f8 false true false false) := by
  refine returnsInHanded_of_change (C := Try.checked) Try.own started (by kernel_rfl) Try.func8
    (ChangeSpec.witness6 (enc := enc) (C := Try.checked) false ⟨#[], #[.slice none 0 0], []⟩ 8 (by kernel_rfl) (by kernel_rfl) (by kernel_rfl) (by kernel_rfl)) ?_
  intro W base args ds gs before hval0 hW _ _
  have hval : ∀ (j : Nat) t v, Try.f8.params[j]? = some t → args[j]? = some v → Value.okWide Try.prog W .any base t v := hval0
  have hW' := hW
  obtain ⟨p, q, hA0, hV, rfl, _, _⟩ := hW
  have hA : DataW.TrodAll enc Try.prog W 0 (fun _ => true) true Try.f8.params.toList args.toList ds p := hA0
  rw [Try.params8] at hA hval
  obtain ⟨v0, vs0, d0, ds0, p0, q0, hargs, rfl, rfl, h0, r0⟩ := trodAll_cons hA
  obtain ⟨rfl, rfl, rfl⟩ := trodAll_nil r0
  obtain rfl : args = #[v0] := by cases args; simp_all
  obtain ⟨rfl, rfl⟩ := trodVars_none hV
  have k0 := h0
  have lt0 : ∀ x ∈ p0, x.block < W.heap.size := by obtain ⟨m, hm⟩ := k0; exact DataW.trod_lt m _ _ _ hm
  obtain ⟨a0, len0, cap0, rfl⟩ := okWide_slice Try.underlying22 (hval 0 22 v0 rfl rfl)
  obtain ⟨z0, w0⟩ : ∃ zs, IsRow .u8 W a0 len0 cap0 zs := by
    obtain ⟨fuel, hf⟩ := h0
    rcases open_ints Try.underlying22 Try.underlying5 (by kernel_rfl) hf with ⟨hcs, _⟩ | ⟨x, l, c, zs, hcs, _, hl, hm, hz, _, hcell, hwz⟩
    · simp [Value.cells] at hcs
      obtain ⟨rfl, rfl, rfl⟩ := hcs
      exact ⟨[], .inl ⟨rfl, rfl, rfl, rfl⟩⟩
    · simp [Value.cells] at hcs
      obtain ⟨rfl, rfl, rfl⟩ := hcs
      exact ⟨zs, .inr ⟨_, rfl, hl, hm, by simpa using hz, hcell, hwz⟩⟩
  clear hA0 hval0
  refine (FnSides_walk a0 len0 cap0 z0 W w0).mono fun e W' ⟨he, bel⟩ => ?_
  subst he
  exact ⟨_, rfl, _, _, _, [], _, [], hW', trodAll_mk1 (shut_bool Try.underlying4 _), (trodAll_cons_mk (Below.trod Try.laidOut (by kernel_rfl) (of_decide_eq_true (by kernel_rfl)) k0 bel lt0) trodAll_mk0), rfl, bel.frame _, fun h => by cases h⟩

/-- The statement. -/
theorem fnSides_proved : Rows.FnSidesSaid :=
  OpenClaim.holds_of_wide 8 Try.f8 rfl rfl rfl rfl rfl rfl rfl ⟨rfl, rfl, rfl, rfl, rfl⟩ rfl rfl rfl rfl rfl (by kernel_rfl) Try.func8 (by kernel_rfl)
    (of_decide_eq_true (by kernel_rfl)) (by unfold Func.isWrapper; rw [if_neg (of_decide_eq_false (by kernel_rfl))]; exact ⟨rfl, rfl⟩)
    (fun os started H enc _ => fnSides_lifted os started H enc)
#print axioms fnSides_proved

end Go.Proofs.Ytgafdkaiiajieaa
