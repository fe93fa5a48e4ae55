/- The law FnLight: light goes through one part of a stack and then through the other; only shards that the point lies in change it. No condition. -/
import Derived.Test.YtgafdkaiiajieaaLayI
import Derived.Test.YtgafdkaiiajieaaEqC
import Derived.Test.YtgafdkaiiajieaaHasC
import Derived.Test.YtgafdkaiiajieaaBig
namespace Go.Proofs.Ytgafdkaiiajieaa
open Go.RowKit Go.Sort
open Fl

set_option maxRecDepth 100000 in
set_option maxHeartbeats 4000000 in
theorem FnLight_walk (a : Option Addr) (len cap : Nat) (z : List Int) (w : World) (hz : IsRow .u8 w a len cap z) :
    Calls Try.prog 10 #[.slice a len cap] w fun e w' => e = .returned (.bool true) ∧ Below w.heap.size w w' := by
  have HC := hide (isCode_of_row hz)
  have hm := (isCode_of_row hz).1
  clear hz
  by_cases hb : 4096 < len
  · go_enter Try.func10, Try.ntmps10
    go_wp2_with fail
    refine (big_any _ _ _ _).mono ?_
    rintro e w' ⟨rfl, rfl⟩
    go_wp2_with fail
    go_ret
    exact ⟨rfl, Below.refl _ _⟩
  · go_enter Try.func10, Try.ntmps10
    go_wp2_with fail
    refine (big_any _ _ _ _).mono ?_
    rintro e w' ⟨rfl, rfl⟩
    go_wp2_with fail
    refine (drawGlass_any _ _ _ _ HC.out).mono ?_
    rintro e w1 ⟨v, l, x, y, r, g, b, rfl, hl6, hok, hpt, hcol, own, bel⟩
    obtain ⟨av, cv, hvv, hr, hav⟩ := readsSh_of_own own
    have hform : (av = none ∧ l.length = 0 ∧ cv = 0) ∨ ∃ g, av = some ⟨g, 0, none⟩ ∧ l.length ≤ cv ∧ cv ≤ maxLen := by
      rcases own.2 with ⟨e, h0⟩ | ⟨g, cv', cur, e, _, _, h1, h2, _, _⟩
      · obtain ⟨e1, _, e3⟩ := Value.slice.inj (hvv.symm.trans e)
        exact .inl ⟨e1, h0, e3⟩
      · obtain ⟨e1, _, e3⟩ := Value.slice.inj (hvv.symm.trans e)
        subst e3
        exact .inr ⟨g, e1, h1, h2⟩
    subst hvv
    have hmx : l.length ≤ maxLen := by unfold maxLen; omega
    generalize hn : l.length = n at hl6 hmx hr hform ⊢
    have HR := hide (readsO_of hr hmx)
    obtain ⟨m, hm2⟩ : ∃ m : Nat, m = n / 2 := ⟨_, rfl⟩
    have hmn : m ≤ n := by omega
    have hdiv : ((n : Int) / 2) = (m : Int) := by omega
    have hcolT := glow_col (px := x) (py := y) (l := l.take m) (c := ⟨r, g, b⟩) hcol (fun s hs => hok s (List.mem_of_mem_take hs))
    have hcolA := glow_col (px := x) (py := y) (l := l) (c := ⟨r, g, b⟩) hcol hok
    have S1 := fun a' cap' W (h : ReadsO W a' n cap' l) => seen_any a' n cap' l x y ⟨r, g, b⟩ W h hok (by omega) hpt hcol
    have S2 := fun a' cap' W (h : ReadsO W a' m cap' (l.take m)) => seen_any a' m cap' (l.take m) x y ⟨r, g, b⟩ W h (fun s hs => hok s (List.mem_of_mem_take hs)) (by omega) hpt hcol
    have S3 := fun a' cap' W (h : ReadsO W a' (n - m) cap' (l.drop m)) => seen_any a' (n - m) cap' (l.drop m) x y (glow x y (l.take m) ⟨r, g, b⟩) W h (fun s hs => hok s (List.mem_of_mem_drop hs)) (by omega) hpt hcolT
    have S4 := fun W => seen_any none 0 0 [] x y ⟨r, g, b⟩ W (readsO_nil W none 0) (fun s hs => by cases hs) (by omega) hpt hcol
    have S5 := fun a' k cap' W (h : ReadsO W a' k cap' (l.filter fun s => liesW s x y)) (hk : k ≤ 12) => seen_any a' k cap' (l.filter fun s => liesW s x y) x y ⟨r, g, b⟩ W h (fun s hs => hok s ((List.mem_filter.1 hs).1)) hk hpt hcol
    rw [glow_parts] at S3
    rw [glow_few] at S5
    rw [show glow x y [] ⟨r, g, b⟩ = ⟨r, g, b⟩ from rfl] at S4
    obtain ⟨⟨ar, ag, ab⟩, hA⟩ : ∃ q, glow x y l ⟨r, g, b⟩ = q := ⟨_, rfl⟩
    obtain ⟨⟨tr, tg, tb⟩, hT⟩ : ∃ q, glow x y (l.take m) ⟨r, g, b⟩ = q := ⟨_, rfl⟩
    rw [hA] at S1 S3 S5 hcolA
    rw [hT] at S2 S3
    simp only at S1 S2 S3 S4 S5 hcolA
    obtain ⟨p1, p2, p3⟩ := isCol_parts hcolA
    have Q1 := eqC_of (part_fin p1) (part_fin p2) (part_fin p3) (part_fin p1) (part_fin p2) (part_fin p3) rfl rfl rfl
    obtain ⟨p1, p2, p3⟩ := isCol_parts hcol
    have Q2 := eqC_of (part_fin p1) (part_fin p2) (part_fin p3) (part_fin p1) (part_fin p2) (part_fin p3) rfl rfl rfl
    have IC := hide (fun W => isColourY hcolA W)
    have LY := hide (fun a' cap' W (h : ReadsO W a' n cap' l) => layers_any a' n cap' l x y W h hok (by omega) hpt)
    have IS := hide (fun s W (hs : ShOk s) => inShard_any s x y W hs hpt)
    have S1 := hide S1
    have S2 := hide S2
    have S3 := hide S3
    have S4 := hide S4
    have S5 := hide S5
    have HOK := hide hok
    have HN := hide hn
    clear hok hpt own hav hcol hcolT hcolA hr hA hT p1 p2 p3 hn hm2 hmx
    rcases hform with ⟨rfl, rfl, rfl⟩ | ⟨gv, rfl, hncv, hmcv⟩
    · obtain rfl : m = 0 := by omega
      clear hdiv
      go_wp2_with fail
      have belw := bel
      have l0 : ((w1.alloc (.cells #[.float .f32 r, .float .f32 g, .float .f32 b] 41))).cell? ⟨w1.heap.size, 0, none⟩ = some (.float .f32 r) := by go_simp
      have l1 : ((w1.alloc (.cells #[.float .f32 r, .float .f32 g, .float .f32 b] 41))).cell? ⟨w1.heap.size, 1, none⟩ = some (.float .f32 g) := by go_simp
      have l2 : ((w1.alloc (.cells #[.float .f32 r, .float .f32 g, .float .f32 b] 41))).cell? ⟨w1.heap.size, 2, none⟩ = some (.float .f32 b) := by go_simp
      have bel : Below w1.heap.size w1 ((w1.alloc (.cells #[.float .f32 r, .float .f32 g, .float .f32 b] 41))) := (Below.refl _ _).alloc (Nat.le_refl _) _
      generalize (w1.alloc (.cells #[.float .f32 r, .float .f32 g, .float .f32 b] 41)) = wA at l0 l1 l2 bel ⊢
      have hswA := bel.size
      refine (S1.out _ _ _ (HR.out.below bel)).mono ?_
      rintro e w2 ⟨rfl, nb⟩
      have l0 := keepc nb l0
      have l1 := keepc nb l1
      have l2 := keepc nb l2
      have bel := belowOf bel nb
      clear nb
      have hq : w1.heap.size < w2.heap.size := World.block_lt_of_cell? w2 _ l0
      go_upto_region 6 with fail
      have l0 : ((w2.alloc (.cells #[.float .f32 ar, .float .f32 ag, .float .f32 ab] 41))).cell? ⟨w1.heap.size, 0, none⟩ = some (.float .f32 r) := by go_simp
      have l1 : ((w2.alloc (.cells #[.float .f32 ar, .float .f32 ag, .float .f32 ab] 41))).cell? ⟨w1.heap.size, 1, none⟩ = some (.float .f32 g) := by go_simp
      have l2 : ((w2.alloc (.cells #[.float .f32 ar, .float .f32 ag, .float .f32 ab] 41))).cell? ⟨w1.heap.size, 2, none⟩ = some (.float .f32 b) := by go_simp
      have a0 : ((w2.alloc (.cells #[.float .f32 ar, .float .f32 ag, .float .f32 ab] 41))).cell? ⟨w2.heap.size, 0, none⟩ = some (.float .f32 ar) := by go_simp
      have a1 : ((w2.alloc (.cells #[.float .f32 ar, .float .f32 ag, .float .f32 ab] 41))).cell? ⟨w2.heap.size, 1, none⟩ = some (.float .f32 ag) := by go_simp
      have a2 : ((w2.alloc (.cells #[.float .f32 ar, .float .f32 ag, .float .f32 ab] 41))).cell? ⟨w2.heap.size, 2, none⟩ = some (.float .f32 ab) := by go_simp
      have bel : Below w1.heap.size w1 ((w2.alloc (.cells #[.float .f32 ar, .float .f32 ag, .float .f32 ab] 41))) := bel.alloc bel.size _
      generalize (w2.alloc (.cells #[.float .f32 ar, .float .f32 ag, .float .f32 ab] 41)) = w3 at l0 l1 l2 a0 a1 a2 bel ⊢
      have hsw3 := bel.size
      have hl3 : w1.heap.size < w3.heap.size := World.block_lt_of_cell? w3 _ l0
      have hl4 : w1.heap.size < w3.heap.size + 1 := by omega
      have hl5 : w1.heap.size ≠ w3.heap.size := by omega
      have R3 := hide (HR.out.below bel)
      go_cut [8] from 27 to 33 (fun s8 wx => ∃ p, s8 = .pointer (some ⟨p, 0, none⟩) ∧ HasC w3 wx p tr tg tb)
      case first =>
        have R3H := hide (R3.out.head hmn)
        go_region_held3 (fun w' => w'.cell? ⟨w1.heap.size, 0, none⟩ = some (.float .f32 r) ∧ w'.cell? ⟨w1.heap.size, 1, none⟩ = some (.float .f32 g) ∧ w'.cell? ⟨w1.heap.size, 2, none⟩ = some (.float .f32 b))
          ((refine (show Below w3.heap.size w3 _ → _ from fun hk => ⟨keepc hk l0, keepc hk l1, keepc hk l2⟩) ?_; first | (with_reducible exact Below.refl _ _) | (with_reducible exact (Below.refl _ _).drew) | (with_reducible exact ((Below.refl _ _).alloc (Nat.le_refl _) _)) | (with_reducible exact ((Below.refl _ _).alloc (Nat.le_refl _) _).drew) | (with_reducible exact bw5) | (with_reducible exact bw5.drew) | (with_reducible exact bw5.alloc bw5.size _) | (with_reducible exact (bw5.alloc bw5.size _).drew) | (with_reducible exact ((bw5.setCell (Nat.le_refl _) _).setCell (Nat.le_refl _) _).setCell (Nat.le_refl _) _)))
          (first | (go_at_call 38; (with_reducible refine (S2.out _ _ _ (R3H.out.below (by first | (with_reducible exact Below.refl _ _) | (with_reducible exact (Below.refl _ _).drew) | (with_reducible exact ((Below.refl _ _).alloc (Nat.le_refl _) _)) | (with_reducible exact ((Below.refl _ _).alloc (Nat.le_refl _) _).drew) | (with_reducible exact ((Below.refl _ _).drew.alloc (Nat.le_refl _) _))))).mono ?_); rintro e w5 ⟨rfl, hb5⟩; have bw5 := belowOf (w := w3) (by first | (with_reducible exact Below.refl _ _) | (with_reducible exact (Below.refl _ _).drew) | (with_reducible exact ((Below.refl _ _).alloc (Nat.le_refl _) _)) | (with_reducible exact ((Below.refl _ _).alloc (Nat.le_refl _) _).drew) | (with_reducible exact ((Below.refl _ _).drew.alloc (Nat.le_refl _) _))) hb5; have hw5 := bw5.size; have hq5 : w1.heap.size < w5.heap.size := Nat.lt_of_lt_of_le hl3 hw5; obtain ⟨hc5, hf5⟩ := bcell hb5))
        all_goals (go_wp2_with fail; go_meet)
        all_goals
          first
            | (with_reducible exact ⟨_, rfl, hasC_new bw5⟩)
            | (refine ⟨_, rfl, hasC_set hb5 bw5 (u0 := .float .f32 0) (u1 := .float .f32 0) (u2 := .float .f32 0) ?_ ?_ ?_ ?_⟩
               · go_simp
               · go_simp
               · go_simp
               · first | exact Nat.le_refl _ | omega)
      case rest =>
        obtain ⟨pH, rfl, ⟨h0, h1, h2, nb⟩⟩ := hcut
        have k0 := nb
        have l0 := keepc nb l0
        have l1 := keepc nb l1
        have l2 := keepc nb l2
        have a0 := keepc nb a0
        have a1 := keepc nb a1
        have a2 := keepc nb a2
        have bel := belowOf bel nb
        clear nb
        obtain ⟨w5, rfl⟩ : ∃ w5 : World, w5 = wc := ⟨_, rfl⟩
        have R5 := hide (R3.out.below k0)
        clear k0 R3
        go_upto_region 7 with fail
        have R5D : ReadsO w5 none 0 0 (l.drop 0) := R5.out
        have C1 : ∀ d os, Calls Try.prog 38 #[.slice none 0 0, .complex .f32 x y, .agg #[.float .f32 tr, .float .f32 tg, .float .f32 tb]] (grow (redrawn w5 d) os) fun e w'' => e = .returned (.agg #[.float .f32 ar, .float .f32 ag, .float .f32 ab]) ∧ ∃ p : Regrown, w'' = grow (redrawn w5 p.d) p.os := fun d os => Calls.regrown_of (S3.out _ _ _ (R5D.below (below_regrown w5 d os)))
        have C2 := regC (w := w5) S4.out
        have k_l0 := cell_regrown l0
        have k_l1 := cell_regrown l1
        have k_l2 := cell_regrown l2
        have k_a0 := cell_regrown a0
        have k_a1 := cell_regrown a1
        have k_a2 := cell_regrown a2
        have k_h0 := cell_regrown h0
        have k_h1 := cell_regrown h1
        have k_h2 := cell_regrown h2
        refine wp_region_below (by kernel_rfl) (by kernel_rfl) ?_
        repeat (go_big_quiet_step (first | (with_reducible exact C1 _ _) | (with_reducible exact C2 _ _)))
        refine wpQuiet_nil ?_
        intro w6 nb
        clear k_l0 k_l1 k_l2 k_a0 k_a1 k_a2 k_h0 k_h1 k_h2
        have l0 := keepc nb l0
        have l1 := keepc nb l1
        have l2 := keepc nb l2
        have a0 := keepc nb a0
        have a1 := keepc nb a1
        have a2 := keepc nb a2
        have bel := belowOf bel nb
        clear nb
        clear C1 C2 R5D h0 h1 h2
        have R6 := hide (HR.out.below bel)
        clear R5
        go_wp2_with fail
        refine (LY.out _ _ _ R6.out).mono ?_
        rintro e w7 ⟨vL, rfl, hownL, nb⟩
        have l0 := keepc nb l0
        have l1 := keepc nb l1
        have l2 := keepc nb l2
        have a0 := keepc nb a0
        have a1 := keepc nb a1
        have a2 := keepc nb a2
        have bel := belowOf bel nb
        clear nb R6
        have hmem := hide (fun i hi => lays_mem (px := x) (py := y) (l := l) (k := 0) (i := i) hi)
        have hall := hide (pick_all x y l)
        rw [HN.out] at hall
        have hLle := lays_le x y l 0
        unfold laysV at hownL
        generalize lays x y l 0 = L at hownL hmem hall hLle
        obtain ⟨aL, cL, rfl, hcL⟩ := readsN hownL
        have HL := hide hcL
        clear hownL hcL
        generalize hq : L.length = q at HL hLle ⊢
        have HQ := hide hq
        clear hq
        go_wp2_with fail
        obtain ⟨iF, hiF, hzF0, hzF1, hzF2⟩ := infoPartsG Try.infoShard
        have hx0 : (w7.alloc (.cells #[] 56)).ownsRow w7.heap.size 56 7 (.slice (some ⟨w7.heap.size, 0, none⟩) 0 0) (pick l L 0).length (shsCells (pick l L 0)) := World.ownsRow_lit w7 #[] 0 (Nat.le_refl _) (by unfold maxLen; omega) rfl
        have hb0 : Below w7.heap.size w7 (w7.alloc (.cells #[] 56)) := (Below.refl _ _).alloc (Nat.le_refl _) _
        generalize w7.alloc (.cells #[] 56) = wZ at hx0 hb0 ⊢
        generalize Value.slice (some ⟨w7.heap.size, 0, none⟩) 0 0 = X0 at hx0 ⊢
        have R7 := hide (HR.out.below bel)
        have Z0 := hide (And.intro l0 (And.intro l1 (And.intro l2 (And.intro a0 (And.intro a1 a2)))))
        clear l0 l1 l2 a0 a1 a2 S1 S2 S3 S4 LY HR
        go_loopw [10, 11] (fun u i wr => ∃ k : Nat, k ≤ q ∧ i = .int .i64 k ∧ wr.ownsRow w7.heap.size 56 7 u (pick l L k).length (shsCells (pick l L k)) ∧ Below w7.heap.size w7 wr) (fun _ i _ => q - (intOf i).toNat)
        case atStart => exact ⟨0, Nat.zero_le _, rfl, hx0, hb0⟩
        case round =>
          clear hx0 hb0
          obtain ⟨k, hk, rfl, hown, hb7⟩ := hrel
          have hple := pick_le l L k
          by_cases hlt : k < q
          · omega
          · obtain rfl : k = q := by omega
            have hall2 := hall.out
            rw [HQ.out] at hall2
            rw [hall2] at hown hple
            obtain ⟨aF, cF, rfl, hrF, _⟩ := readsSh_of_own hown
            generalize hq2 : (l.filter fun s => liesW s x y).length = q2 at hrF hple ⊢
            have RF := hide (readsO_of hrF (by unfold maxLen; omega))
            have hq12 : q2 ≤ 12 := by omega
            obtain ⟨l0, l1, l2, a0, a1, a2⟩ := Z0.out
            have l0 := keepc hb7 l0
            have l1 := keepc hb7 l1
            have l2 := keepc hb7 l2
            have a0 := keepc hb7 a0
            have a1 := keepc hb7 a1
            have a2 := keepc hb7 a2
            have bel := belowOf bel hb7
            clear hown hrF hq2 hb7 Z0 HL hmem hall hall2 HOK IS
            go_wp2_with fail
            have RFc := RF.out
            have C1 : ∀ d os, Calls Try.prog 38 #[.slice aF q2 cF, .complex .f32 x y, .agg #[.float .f32 r, .float .f32 g, .float .f32 b]] (grow (redrawn wr d) os) fun e w'' => e = .returned (.agg #[.float .f32 ar, .float .f32 ag, .float .f32 ab]) ∧ ∃ p : Regrown, w'' = grow (redrawn wr p.d) p.os := fun d os => Calls.regrown_of (S5.out _ _ _ _ (RFc.below (below_regrown wr d os)) hq12)
            have C2 := regC (w := wr) IC.out
            clear RFc
            have k_l0 := cell_regrown l0
            have k_l1 := cell_regrown l1
            have k_l2 := cell_regrown l2
            have k_a0 := cell_regrown a0
            have k_a1 := cell_regrown a1
            have k_a2 := cell_regrown a2
            refine wp_region_below_tail 10 (by kernel_rfl) (by kernel_rfl) ?_
            simp only [List.take_succ_cons, List.take_zero, List.drop_succ_cons, List.drop_zero]
            repeat (go_big_quiet_step (first | (with_reducible exact C1 _ _) | (with_reducible exact C2 _ _)))
            refine wpQuiet_nil ?_
            intro w9 nb
            clear k_l0 k_l1 k_l2 k_a0 k_a1 k_a2
            have l0 := keepc nb l0
            have bel := belowOf bel nb
            clear nb
            clear C1 C2
            go_wp2_with fail
            go_ret
            exact ⟨rfl, belowOf belw bel⟩
    · have HF := hide (And.intro hncv hmcv)
      have hmcv2 : (m : Int) ≤ (cv : Int) := by omega
      have hncv2 : (n : Int) ≤ (cv : Int) := by omega
      have hmn2 : (m : Int) ≤ (n : Int) := by omega
      unfold maxLen at hmcv
      go_wp2_with fail
      have belw := bel
      have l0 : ((w1.alloc (.cells #[.float .f32 r, .float .f32 g, .float .f32 b] 41))).cell? ⟨w1.heap.size, 0, none⟩ = some (.float .f32 r) := by go_simp
      have l1 : ((w1.alloc (.cells #[.float .f32 r, .float .f32 g, .float .f32 b] 41))).cell? ⟨w1.heap.size, 1, none⟩ = some (.float .f32 g) := by go_simp
      have l2 : ((w1.alloc (.cells #[.float .f32 r, .float .f32 g, .float .f32 b] 41))).cell? ⟨w1.heap.size, 2, none⟩ = some (.float .f32 b) := by go_simp
      have bel : Below w1.heap.size w1 ((w1.alloc (.cells #[.float .f32 r, .float .f32 g, .float .f32 b] 41))) := (Below.refl _ _).alloc (Nat.le_refl _) _
      generalize (w1.alloc (.cells #[.float .f32 r, .float .f32 g, .float .f32 b] 41)) = wA at l0 l1 l2 bel ⊢
      have hswA := bel.size
      refine (S1.out _ _ _ (HR.out.below bel)).mono ?_
      rintro e w2 ⟨rfl, nb⟩
      have l0 := keepc nb l0
      have l1 := keepc nb l1
      have l2 := keepc nb l2
      have bel := belowOf bel nb
      clear nb
      have hq : w1.heap.size < w2.heap.size := World.block_lt_of_cell? w2 _ l0
      go_upto_region 6 with fail
      have l0 : ((w2.alloc (.cells #[.float .f32 ar, .float .f32 ag, .float .f32 ab] 41))).cell? ⟨w1.heap.size, 0, none⟩ = some (.float .f32 r) := by go_simp
      have l1 : ((w2.alloc (.cells #[.float .f32 ar, .float .f32 ag, .float .f32 ab] 41))).cell? ⟨w1.heap.size, 1, none⟩ = some (.float .f32 g) := by go_simp
      have l2 : ((w2.alloc (.cells #[.float .f32 ar, .float .f32 ag, .float .f32 ab] 41))).cell? ⟨w1.heap.size, 2, none⟩ = some (.float .f32 b) := by go_simp
      have a0 : ((w2.alloc (.cells #[.float .f32 ar, .float .f32 ag, .float .f32 ab] 41))).cell? ⟨w2.heap.size, 0, none⟩ = some (.float .f32 ar) := by go_simp
      have a1 : ((w2.alloc (.cells #[.float .f32 ar, .float .f32 ag, .float .f32 ab] 41))).cell? ⟨w2.heap.size, 1, none⟩ = some (.float .f32 ag) := by go_simp
      have a2 : ((w2.alloc (.cells #[.float .f32 ar, .float .f32 ag, .float .f32 ab] 41))).cell? ⟨w2.heap.size, 2, none⟩ = some (.float .f32 ab) := by go_simp
      have bel : Below w1.heap.size w1 ((w2.alloc (.cells #[.float .f32 ar, .float .f32 ag, .float .f32 ab] 41))) := bel.alloc bel.size _
      generalize (w2.alloc (.cells #[.float .f32 ar, .float .f32 ag, .float .f32 ab] 41)) = w3 at l0 l1 l2 a0 a1 a2 bel ⊢
      have hsw3 := bel.size
      have hl3 : w1.heap.size < w3.heap.size := World.block_lt_of_cell? w3 _ l0
      have hl4 : w1.heap.size < w3.heap.size + 1 := by omega
      have hl5 : w1.heap.size ≠ w3.heap.size := by omega
      have R3 := hide (HR.out.below bel)
      go_cut [8] from 27 to 33 (fun s8 wx => ∃ p, s8 = .pointer (some ⟨p, 0, none⟩) ∧ HasC w3 wx p tr tg tb)
      case first =>
        have R3H := hide (R3.out.head hmn)
        go_region_held3 (fun w' => w'.cell? ⟨w1.heap.size, 0, none⟩ = some (.float .f32 r) ∧ w'.cell? ⟨w1.heap.size, 1, none⟩ = some (.float .f32 g) ∧ w'.cell? ⟨w1.heap.size, 2, none⟩ = some (.float .f32 b))
          ((refine (show Below w3.heap.size w3 _ → _ from fun hk => ⟨keepc hk l0, keepc hk l1, keepc hk l2⟩) ?_; first | (with_reducible exact Below.refl _ _) | (with_reducible exact (Below.refl _ _).drew) | (with_reducible exact ((Below.refl _ _).alloc (Nat.le_refl _) _)) | (with_reducible exact ((Below.refl _ _).alloc (Nat.le_refl _) _).drew) | (with_reducible exact bw5) | (with_reducible exact bw5.drew) | (with_reducible exact bw5.alloc bw5.size _) | (with_reducible exact (bw5.alloc bw5.size _).drew) | (with_reducible exact ((bw5.setCell (Nat.le_refl _) _).setCell (Nat.le_refl _) _).setCell (Nat.le_refl _) _)))
          (first | (go_at_call 38; (with_reducible refine (S2.out _ _ _ (R3H.out.below (by first | (with_reducible exact Below.refl _ _) | (with_reducible exact (Below.refl _ _).drew) | (with_reducible exact ((Below.refl _ _).alloc (Nat.le_refl _) _)) | (with_reducible exact ((Below.refl _ _).alloc (Nat.le_refl _) _).drew) | (with_reducible exact ((Below.refl _ _).drew.alloc (Nat.le_refl _) _))))).mono ?_); rintro e w5 ⟨rfl, hb5⟩; have bw5 := belowOf (w := w3) (by first | (with_reducible exact Below.refl _ _) | (with_reducible exact (Below.refl _ _).drew) | (with_reducible exact ((Below.refl _ _).alloc (Nat.le_refl _) _)) | (with_reducible exact ((Below.refl _ _).alloc (Nat.le_refl _) _).drew) | (with_reducible exact ((Below.refl _ _).drew.alloc (Nat.le_refl _) _))) hb5; have hw5 := bw5.size; have hq5 : w1.heap.size < w5.heap.size := Nat.lt_of_lt_of_le hl3 hw5; obtain ⟨hc5, hf5⟩ := bcell hb5))
        all_goals (go_wp2_with fail; go_meet)
        all_goals
          first
            | (with_reducible exact ⟨_, rfl, hasC_new bw5⟩)
            | (refine ⟨_, rfl, hasC_set hb5 bw5 (u0 := .float .f32 0) (u1 := .float .f32 0) (u2 := .float .f32 0) ?_ ?_ ?_ ?_⟩
               · go_simp
               · go_simp
               · go_simp
               · first | exact Nat.le_refl _ | omega)
      case rest =>
        obtain ⟨pH, rfl, ⟨h0, h1, h2, nb⟩⟩ := hcut
        have k0 := nb
        have l0 := keepc nb l0
        have l1 := keepc nb l1
        have l2 := keepc nb l2
        have a0 := keepc nb a0
        have a1 := keepc nb a1
        have a2 := keepc nb a2
        have bel := belowOf bel nb
        clear nb
        obtain ⟨w5, rfl⟩ : ∃ w5 : World, w5 = wc := ⟨_, rfl⟩
        have R5 := hide (R3.out.below k0)
        clear k0 R3
        go_upto_region 7 with fail
        obtain ⟨aD, haD⟩ : ∃ q, (if cv = m then some (⟨gv, 0, none⟩ : Addr) else some ⟨gv, m * 7, none⟩) = q := ⟨_, rfl⟩
        have R5D : ReadsO w5 aD (n - m) (cv - m) (l.drop m) := by
          have q := R5.out.rest hmn HF.out.1 HF.out.2
          rw [Nat.zero_add] at q
          rw [← haD]
          by_cases hcm : cv = m
          · have hnm : n - m = 0 := by omega
            exact ⟨q.1, q.2.1, .inl hnm⟩
          · rw [if_neg hcm]; exact q
        have C1 : ∀ d os, Calls Try.prog 38 #[.slice aD (n - m) (cv - m), .complex .f32 x y, .agg #[.float .f32 tr, .float .f32 tg, .float .f32 tb]] (grow (redrawn w5 d) os) fun e w'' => e = .returned (.agg #[.float .f32 ar, .float .f32 ag, .float .f32 ab]) ∧ ∃ p : Regrown, w'' = grow (redrawn w5 p.d) p.os := fun d os => Calls.regrown_of (S3.out _ _ _ (R5D.below (below_regrown w5 d os)))
        have C2 := regC (w := w5) S4.out
        have k_l0 := cell_regrown l0
        have k_l1 := cell_regrown l1
        have k_l2 := cell_regrown l2
        have k_a0 := cell_regrown a0
        have k_a1 := cell_regrown a1
        have k_a2 := cell_regrown a2
        have k_h0 := cell_regrown h0
        have k_h1 := cell_regrown h1
        have k_h2 := cell_regrown h2
        refine wp_region_below (by kernel_rfl) (by kernel_rfl) ?_
        repeat (go_big_quiet_step (first | (with_reducible exact C1 _ _) | (with_reducible exact C2 _ _)))
        refine wpQuiet_nil ?_
        intro w6 nb
        clear k_l0 k_l1 k_l2 k_a0 k_a1 k_a2 k_h0 k_h1 k_h2
        have l0 := keepc nb l0
        have l1 := keepc nb l1
        have l2 := keepc nb l2
        have a0 := keepc nb a0
        have a1 := keepc nb a1
        have a2 := keepc nb a2
        have bel := belowOf bel nb
        clear nb
        clear C1 C2 R5D h0 h1 h2 haD
        have R6 := hide (HR.out.below bel)
        clear R5
        go_wp2_with fail
        refine (LY.out _ _ _ R6.out).mono ?_
        rintro e w7 ⟨vL, rfl, hownL, nb⟩
        have l0 := keepc nb l0
        have l1 := keepc nb l1
        have l2 := keepc nb l2
        have a0 := keepc nb a0
        have a1 := keepc nb a1
        have a2 := keepc nb a2
        have bel := belowOf bel nb
        clear nb R6
        have hmem := hide (fun i hi => lays_mem (px := x) (py := y) (l := l) (k := n) (i := i) hi)
        have hall := hide (pick_all x y l)
        rw [HN.out] at hall
        have hLle := lays_le x y l n
        unfold laysV at hownL
        generalize lays x y l n = L at hownL hmem hall hLle
        obtain ⟨aL, cL, rfl, hcL⟩ := readsN hownL
        have HL := hide hcL
        clear hownL hcL
        generalize hq : L.length = q at HL hLle ⊢
        have HQ := hide hq
        clear hq
        go_wp2_with fail
        obtain ⟨iF, hiF, hzF0, hzF1, hzF2⟩ := infoPartsG Try.infoShard
        have hx0 : (w7.alloc (.cells #[] 56)).ownsRow w7.heap.size 56 7 (.slice (some ⟨w7.heap.size, 0, none⟩) 0 0) (pick l L 0).length (shsCells (pick l L 0)) := World.ownsRow_lit w7 #[] 0 (Nat.le_refl _) (by unfold maxLen; omega) rfl
        have hb0 : Below w7.heap.size w7 (w7.alloc (.cells #[] 56)) := (Below.refl _ _).alloc (Nat.le_refl _) _
        generalize w7.alloc (.cells #[] 56) = wZ at hx0 hb0 ⊢
        generalize Value.slice (some ⟨w7.heap.size, 0, none⟩) 0 0 = X0 at hx0 ⊢
        have R7 := hide (HR.out.below bel)
        have Z0 := hide (And.intro l0 (And.intro l1 (And.intro l2 (And.intro a0 (And.intro a1 a2)))))
        clear l0 l1 l2 a0 a1 a2 S1 S2 S3 S4 LY HR HF
        go_loopw [10, 11] (fun u i wr => ∃ k : Nat, k ≤ q ∧ i = .int .i64 k ∧ wr.ownsRow w7.heap.size 56 7 u (pick l L k).length (shsCells (pick l L k)) ∧ Below w7.heap.size w7 wr) (fun _ i _ => q - (intOf i).toNat)
        case atStart => exact ⟨0, Nat.zero_le _, rfl, hx0, hb0⟩
        case round =>
          clear hx0 hb0
          obtain ⟨k, hk, rfl, hown, hb7⟩ := hrel
          have hple := pick_le l L k
          by_cases hlt : k < q
          · obtain ⟨gL, iL, rfl, hget, hcell⟩ := HL.out k hlt
            obtain ⟨hiL, sh, hsh, hly⟩ := hmem.out iL (List.mem_of_getElem? hget)
            obtain ⟨gm, o, sh', hadr, hs', hat, hget'⟩ := (R7.out.below hb7).at hiL
            obtain rfl : sh = sh' := Option.some.inj (hsh.symm.trans hget')
            obtain ⟨rfl, rfl⟩ : gv = gm ∧ o = 0 := by cases hadr; exact ⟨rfl, rfl⟩
            have hcell := keepc hb7 hcell
            have HPS := hide (pick_succ (l := l) (L := L) (k := k) hget hsh)
            have I1 := hide (fun W => IS.out sh W (HOK.out sh hs'))
            rw [hly] at I1
            have hiln : (iL : Int) < (n : Int) := by omega
            obtain ⟨ax, ay, bx, b_y, cx, cy, sr, sg, sb, ck⟩ := sh
            obtain ⟨c0, c1, c2, c3, c4, c5, c6⟩ := hat
            simp only [Nat.zero_add] at I1 HPS c0 c1 c2 c3 c4 c5 c6
            clear hsh hly hs' hget' hadr hget hmem hall HOK IS S5
            go_wp2_with fail
            refine (I1.out _).mono ?_
            rintro e w8 ⟨rfl, nb⟩
            have hown := ownsBelowG hown nb
            have c0 := keepc nb c0
            have c1 := keepc nb c1
            have c2 := keepc nb c2
            have c3 := keepc nb c3
            have c4 := keepc nb c4
            have c5 := keepc nb c5
            have c6 := keepc nb c6
            have hcell := keepc nb hcell
            have hb7 := belowOf hb7 nb
            clear nb
            have nb : Below w8.heap.size w8 (w8.alloc (.cells #[.complex .f32 ax ay, .complex .f32 bx b_y, .complex .f32 cx cy, .float .f32 sr, .float .f32 sg, .float .f32 sb, .float .f32 ck] 56)) := (Below.refl _ _).alloc (Nat.le_refl _) _
            have hown9 := ownsBelowG hown nb
            have hb9 := belowOf hb7 nb
            clear nb
            go_wp2_with (at_builtin; refine wpList_append_lies _ rfl _ _ 52 rfl w7.heap.size 56 iF (.agg #[.complex .f32 0 0, .complex .f32 0 0, .complex .f32 0 0, .float .f32 0, .float .f32 0, .float .f32 0, .float .f32 0]) 7 40 Try.underlying52 hiF hzF0 hzF1 hzF2 rfl (by decide) _ _ _ rfl hown9 ⟨w8.heap.size, 0, none⟩ 1 1 (shCells ⟨ax, ay, bx, b_y, cx, cy, sr, sg, sb, ck⟩) rfl rfl ?c1 ?c2 (by omega) ?c3 ?c4 ?c5 _ rfl ?_)
            case c1 =>
              intro j u hj
              have hj7 : j < 7 := by
                rcases Nat.lt_or_ge j 7 with h | h
                · exact h
                · rw [List.getElem?_eq_none (by exact h)] at hj; cases hj
              match j, hj7, hj with
              | 0, _, hj => simp [shCells] at hj; subst hj; simp only [Addr.add]; go_simp
              | 1, _, hj => simp [shCells] at hj; subst hj; simp only [Addr.add]; go_simp
              | 2, _, hj => simp [shCells] at hj; subst hj; simp only [Addr.add]; go_simp
              | 3, _, hj => simp [shCells] at hj; subst hj; simp only [Addr.add]; go_simp
              | 4, _, hj => simp [shCells] at hj; subst hj; simp only [Addr.add]; go_simp
              | 5, _, hj => simp [shCells] at hj; subst hj; simp only [Addr.add]; go_simp
              | 6, _, hj => simp [shCells] at hj; subst hj; simp only [Addr.add]; go_simp
            case c2 => intro u hu; simp [shCells] at hu; rcases hu with rfl | rfl | rfl | rfl | rfl | rfl | rfl <;> rfl
            case c3 => unfold maxLen; omega
            case c4 => omega
            case c5 => exact hb9.size
            intro g' cap' wN hown' hgrow hat' _
            have hbN := hb9.grown hgrow hb9.size (fun q hq => (hown9.lt q hq).1)
            have hownN : wN.ownsRow w7.heap.size 56 7 (.slice (some ⟨g', 0, none⟩) ((pick l L k).length + 1) cap') (pick l L (k + 1)).length (shsCells (pick l L (k + 1))) := by
              rw [HPS.out, List.length_append, shsCells_append]
              simpa [shsCells] using hown'
            clear hown' hgrow hat' hown9 hb9 hown hb7 c0 c1 c2 c3 c4 c5 c6 hcell
            go_wp2_with fail
            go_roundw
            case rel => exact ⟨k + 1, by omega, by go_num, hownN, hbN⟩
            case measure => simp [intOf]; omega
          · obtain rfl : k = q := by omega
            have hall2 := hall.out
            rw [HQ.out] at hall2
            rw [hall2] at hown hple
            obtain ⟨aF, cF, rfl, hrF, _⟩ := readsSh_of_own hown
            generalize hq2 : (l.filter fun s => liesW s x y).length = q2 at hrF hple ⊢
            have RF := hide (readsO_of hrF (by unfold maxLen; omega))
            have hq12 : q2 ≤ 12 := by omega
            obtain ⟨l0, l1, l2, a0, a1, a2⟩ := Z0.out
            have l0 := keepc hb7 l0
            have l1 := keepc hb7 l1
            have l2 := keepc hb7 l2
            have a0 := keepc hb7 a0
            have a1 := keepc hb7 a1
            have a2 := keepc hb7 a2
            have bel := belowOf bel hb7
            clear hown hrF hq2 hb7 Z0 HL hmem hall hall2 HOK IS
            go_wp2_with fail
            have RFc := RF.out
            have C1 : ∀ d os, Calls Try.prog 38 #[.slice aF q2 cF, .complex .f32 x y, .agg #[.float .f32 r, .float .f32 g, .float .f32 b]] (grow (redrawn wr d) os) fun e w'' => e = .returned (.agg #[.float .f32 ar, .float .f32 ag, .float .f32 ab]) ∧ ∃ p : Regrown, w'' = grow (redrawn wr p.d) p.os := fun d os => Calls.regrown_of (S5.out _ _ _ _ (RFc.below (below_regrown wr d os)) hq12)
            have C2 := regC (w := wr) IC.out
            clear RFc
            have k_l0 := cell_regrown l0
            have k_l1 := cell_regrown l1
            have k_l2 := cell_regrown l2
            have k_a0 := cell_regrown a0
            have k_a1 := cell_regrown a1
            have k_a2 := cell_regrown a2
            refine wp_region_below_tail 10 (by kernel_rfl) (by kernel_rfl) ?_
            simp only [List.take_succ_cons, List.take_zero, List.drop_succ_cons, List.drop_zero]
            repeat (go_big_quiet_step (first | (with_reducible exact C1 _ _) | (with_reducible exact C2 _ _)))
            refine wpQuiet_nil ?_
            intro w9 nb
            clear k_l0 k_l1 k_l2 k_a0 k_a1 k_a2
            have l0 := keepc nb l0
            have bel := belowOf bel nb
            clear nb
            clear C1 C2
            go_wp2_with fail
            go_ret
            exact ⟨rfl, belowOf belw bel⟩

open Go.ChangeShapes Go.WideShapes Go.ChangeAt Go.Joins
open Go.ChangeMaps (open_string shut_string)

set_option maxRecDepth 100000 in
theorem fnLight_lifted (os : Os) (started : os.Started) (H : Type) (enc : TypeId × Value → H) :
    ReturnsInHanded {} Try.checked os 10 .any (Rows.fnLightSpec.pre6 enc Try.prog Try.f10 Rows.fnLightRow.domain false) (Rows.fnLightSpec.post enc Try.prog Try.f10 false true false false) := by
  refine returnsInHanded_of_change (C := Try.checked) Try.own started (by kernel_rfl) Try.func10
    (ChangeSpec.witness6 (enc := enc) (C := Try.checked) false ⟨#[], #[.slice none 0 0], []⟩ 8 (by kernel_rfl) (by kernel_rfl) (by kernel_rfl) (by kernel_rfl)) ?_
  intro W base args ds gs before hval0 hW _ _
  have hval : ∀ (j : Nat) t v, Try.f10.params[j]? = some t → args[j]? = some v → Value.okWide Try.prog W .any base t v := hval0
  have hW' := hW
  obtain ⟨p, q, hA0, hV, rfl, _, _⟩ := hW
  have hA : DataW.TrodAll enc Try.prog W 0 (fun _ => true) true Try.f10.params.toList args.toList ds p := hA0
  rw [Try.params10] at hA hval
  obtain ⟨v0, vs0, d0, ds0, p0, q0, hargs, rfl, rfl, h0, r0⟩ := trodAll_cons hA
  obtain ⟨rfl, rfl, rfl⟩ := trodAll_nil r0
  obtain rfl : args = #[v0] := by cases args; simp_all
  obtain ⟨rfl, rfl⟩ := trodVars_none hV
  have k0 := h0
  have lt0 : ∀ x ∈ p0, x.block < W.heap.size := by obtain ⟨m, hm⟩ := k0; exact DataW.trod_lt m _ _ _ hm
  obtain ⟨a0, len0, cap0, rfl⟩ := okWide_slice Try.underlying22 (hval 0 22 v0 rfl rfl)
  obtain ⟨z0, w0⟩ : ∃ zs, IsRow .u8 W a0 len0 cap0 zs := by
    obtain ⟨fuel, hf⟩ := h0
    rcases open_ints Try.underlying22 Try.underlying5 (by kernel_rfl) hf with ⟨hcs, _⟩ | ⟨x, l, c, zs, hcs, _, hl, hm, hz, _, hcell, hwz⟩
    · simp [Value.cells] at hcs
      obtain ⟨rfl, rfl, rfl⟩ := hcs
      exact ⟨[], .inl ⟨rfl, rfl, rfl, rfl⟩⟩
    · simp [Value.cells] at hcs
      obtain ⟨rfl, rfl, rfl⟩ := hcs
      exact ⟨zs, .inr ⟨_, rfl, hl, hm, by simpa using hz, hcell, hwz⟩⟩
  clear hA0 hval0
  refine (FnLight_walk a0 len0 cap0 z0 W w0).mono fun e W' ⟨he, bel⟩ => ?_
  subst he
  exact ⟨_, rfl, _, _, _, [], _, [], hW', trodAll_mk1 (shut_bool Try.underlying4 _), (trodAll_cons_mk (Below.trod Try.laidOut (by kernel_rfl) (of_decide_eq_true (by kernel_rfl)) k0 bel lt0) trodAll_mk0), rfl, bel.frame _, fun h => by cases h⟩

/-- The statement. -/
theorem fnLight_proved : Rows.FnLightSaid :=
  OpenClaim.holds_of_wide 10 Try.f10 rfl rfl rfl rfl rfl rfl rfl ⟨rfl, rfl, rfl, rfl, rfl⟩ rfl rfl rfl rfl rfl (by kernel_rfl) Try.func10 (by kernel_rfl)
    (of_decide_eq_true (by kernel_rfl)) (by unfold Func.isWrapper; rw [if_neg (of_decide_eq_false (by kernel_rfl))]; exact ⟨rfl, rfl⟩)
    (fun os started H enc _ => fnLight_lifted os started H enc)
#print axioms fnLight_proved

end Go.Proofs.Ytgafdkaiiajieaa
