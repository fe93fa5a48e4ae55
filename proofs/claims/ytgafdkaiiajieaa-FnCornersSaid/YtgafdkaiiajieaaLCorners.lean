/- The law FnCorners: the corners of a shard lie in it, and in its box. No condition. -/
import Derived.Test.YtgafdkaiiajieaaBox
import Derived.Test.YtgafdkaiiajieaaGlassE
import Derived.Test.YtgafdkaiiajieaaBig
namespace Go.Proofs.Ytgafdkaiiajieaa
open Go.RowKit Go.Sort
open Fl

theorem boxLe {x y z : Nat} (hx : rch x = true) (hy : rch y = true) (hz : rch z = true) (lx : x < 4294967296) (ly : y < 4294967296) (lz : z < 4294967296) :
    fin (mn2 (mn2 (cl x) (cl y)) (cl z)) ∧ fin (mx2 (mx2 (cl x) (cl y)) (cl z)) ∧ (val (mn2 (mn2 (cl x) (cl y)) (cl z)) ≤ val x ∧ val (mn2 (mn2 (cl x) (cl y)) (cl z)) ≤ val y ∧ val (mn2 (mn2 (cl x) (cl y)) (cl z)) ≤ val z) ∧ (val x ≤ val (mx2 (mx2 (cl x) (cl y)) (cl z)) ∧ val y ≤ val (mx2 (mx2 (cl x) (cl y)) (cl z)) ∧ val z ≤ val (mx2 (mx2 (cl x) (cl y)) (cl z))) := by
  obtain ⟨_, _, v1, c1⟩ := cl_word hx lx
  obtain ⟨_, _, v2, c2⟩ := cl_word hy ly
  obtain ⟨_, _, v3, c3⟩ := cl_word hz lz
  have m1 := mn2_le (cl x) (cl y)
  have m2 := mn2_le (mn2 (cl x) (cl y)) (cl z)
  have m3 := mx2_ge (cl x) (cl y)
  have m4 := mx2_ge (mx2 (cl x) (cl y)) (cl z)
  refine ⟨(mn2_can (mn2_can c1 c2) c3).fin, (mx2_can (mx2_can c1 c2) c3).fin, ?_, ?_⟩
  · omega
  · omega

set_option maxRecDepth 100000 in
set_option maxHeartbeats 4000000 in
theorem FnCorners_walk (a : Option Addr) (len cap : Nat) (z : List Int) (w : World) (hz : IsRow .u8 w a len cap z) :
    Calls Try.prog 9 #[.slice a len cap] w fun e w' => e = .returned (.bool true) ∧ Below w.heap.size w w' := by
  have HC := hide (isCode_of_row hz)
  have hm := (isCode_of_row hz).1
  clear hz
  by_cases hb : 4096 < len
  · go_enter Try.func9, Try.ntmps9
    go_wp2_with fail
    refine (big_any _ _ _ _).mono ?_
    rintro e w' ⟨rfl, rfl⟩
    go_wp2_with fail
    go_ret
    exact ⟨rfl, Below.refl _ _⟩
  · go_enter Try.func9, Try.ntmps9
    go_wp2_with fail
    refine (big_any _ _ _ _).mono ?_
    rintro e w' ⟨rfl, rfl⟩
    go_wp2_with fail
    refine (drawGlass_any _ _ _ _ HC.out).mono ?_
    rintro e w1 ⟨v, l, x, y, r, g, b, rfl, hl6, hok, hpt, hcol, own, bel⟩
    obtain ⟨av, cv, rfl, hr, hav⟩ := readsSh_of_own own
    have HOK := hide hok
    have HPT := hide hpt
    have HR := hide hr
    generalize hn : l.length = n at HR hl6 ⊢
    clear hok hpt hr own hav hn hcol
    go_wp2_with fail
    have nb : Below w1.heap.size w1 (w1.alloc (.cells #[.float .f32 r, .float .f32 g, .float .f32 b] 41)) := (Below.refl _ _).alloc (Nat.le_refl _) _
    have bel := belowOf bel nb
    have HR := hide (HR.out.below nb)
    generalize w1.alloc (.cells #[.float .f32 r, .float .f32 g, .float .f32 b] 41) = wS at bel HR ⊢
    clear nb
    go_loopw [6] (fun i wr => ∃ k : Nat, k ≤ n ∧ i = .int .i64 k ∧ Below wS.heap.size wS wr) (fun i _ => n - (intOf i).toNat)
    case atStart => exact ⟨0, Nat.zero_le _, rfl, Below.refl _ _⟩
    case round =>
      obtain ⟨k, hk, rfl, hb1⟩ := hrel
      have belw := bel
      have bel := hb1
      clear hb1
      by_cases hlt : k < n
      · obtain ⟨gm, s, rfl, hs, hat, _⟩ := (HR.out.below bel).at hlt
        have hsok := HOK.out s hs
        have B1 := hide (fun W => boxOf_any s W hsok)
        have L1 := fun W => inShard_any s s.ax s.ay W hsok hsok.pa
        have L2 := fun W => inShard_any s s.bx s.b_y W hsok hsok.pb
        have L3 := fun W => inShard_any s s.cx s.cy W hsok hsok.pc
        rw [lies_a hsok] at L1
        rw [lies_b hsok] at L2
        rw [lies_c hsok] at L3
        have A1 := hide (fun W => areaOf_any s W hsok)
        have ha : (FloatKind.f32.format.order (areaW s) 0 == some .lt) = false := not_lt (area_ok hsok).2.2.1 fin_zero (by rw [val_zero]; exact (area_ok hsok).2.2.2)
        generalize areaW s = ar at A1 ha
        obtain ⟨f1, f2, ⟨x1, x2, x3⟩, ⟨x4, x5, x6⟩⟩ := boxLe hsok.pa.rx hsok.pb.rx hsok.pc.rx hsok.pa.lx hsok.pb.lx hsok.pc.lx
        obtain ⟨f3, f4, ⟨y1, y2, y3⟩, ⟨y4, y5, y6⟩⟩ := boxLe hsok.pa.ry hsok.pb.ry hsok.pc.ry hsok.pa.ly hsok.pb.ly hsok.pc.ly
        have h1 := not_lt (rch_fin hsok.pa.rx) f1 x1
        have h2 := not_lt (rch_fin hsok.pb.ry) f3 y2
        have h3 := not_gt (rch_fin hsok.pc.rx) f2 x6
        have h4 := not_gt (rch_fin hsok.pa.ry) f4 y4
        have h5 := not_gt (rch_fin hsok.pb.rx) f2 x5
        have h6 := not_lt (rch_fin hsok.pc.ry) f3 y3
        clear x1 x2 x3 x4 x5 x6 y1 y2 y3 y4 y5 y6 f1 f2 f3 f4
        generalize mn2 (mn2 (cl s.ax) (cl s.bx)) (cl s.cx) = n1 at B1 h1 h2 h3 h4 h5 h6
        generalize mn2 (mn2 (cl s.ay) (cl s.b_y)) (cl s.cy) = n2 at B1 h1 h2 h3 h4 h5 h6
        generalize mx2 (mx2 (cl s.ax) (cl s.bx)) (cl s.cx) = n3 at B1 h1 h2 h3 h4 h5 h6
        generalize mx2 (mx2 (cl s.ay) (cl s.b_y)) (cl s.cy) = n4 at B1 h1 h2 h3 h4 h5 h6
        have HL1 := hide L1
        have HL2 := hide L2
        have HL3 := hide L3
        clear L1 L2 L3
        obtain ⟨ax, ay, bx, b_y, cx, cy, r, g, b, ck⟩ := s
        obtain ⟨c0, c1, c2, c3, c4, c5, c6⟩ := hat
        simp only at c0 c1 c2 c3 c4 c5 c6 B1 HL1 HL2 HL3 A1 h1 h2 h3 h4 h5 h6
        clear hs hsok HOK HPT HC HR
        go_upto_region 8 with fail
        have s0 : ((wr.alloc (.cells #[.complex .f32 ax ay, .complex .f32 bx b_y, .complex .f32 cx cy, .float .f32 r, .float .f32 g, .float .f32 b, .float .f32 ck] 56))).cell? ⟨wr.heap.size, 0, none⟩ = some (.complex .f32 ax ay) := by go_simp
        have s1 : ((wr.alloc (.cells #[.complex .f32 ax ay, .complex .f32 bx b_y, .complex .f32 cx cy, .float .f32 r, .float .f32 g, .float .f32 b, .float .f32 ck] 56))).cell? ⟨wr.heap.size, 1, none⟩ = some (.complex .f32 bx b_y) := by go_simp
        have s2 : ((wr.alloc (.cells #[.complex .f32 ax ay, .complex .f32 bx b_y, .complex .f32 cx cy, .float .f32 r, .float .f32 g, .float .f32 b, .float .f32 ck] 56))).cell? ⟨wr.heap.size, 2, none⟩ = some (.complex .f32 cx cy) := by go_simp
        have s3 : ((wr.alloc (.cells #[.complex .f32 ax ay, .complex .f32 bx b_y, .complex .f32 cx cy, .float .f32 r, .float .f32 g, .float .f32 b, .float .f32 ck] 56))).cell? ⟨wr.heap.size, 3, none⟩ = some (.float .f32 r) := by go_simp
        have s4 : ((wr.alloc (.cells #[.complex .f32 ax ay, .complex .f32 bx b_y, .complex .f32 cx cy, .float .f32 r, .float .f32 g, .float .f32 b, .float .f32 ck] 56))).cell? ⟨wr.heap.size, 4, none⟩ = some (.float .f32 g) := by go_simp
        have s5 : ((wr.alloc (.cells #[.complex .f32 ax ay, .complex .f32 bx b_y, .complex .f32 cx cy, .float .f32 r, .float .f32 g, .float .f32 b, .float .f32 ck] 56))).cell? ⟨wr.heap.size, 5, none⟩ = some (.float .f32 b) := by go_simp
        have s6 : ((wr.alloc (.cells #[.complex .f32 ax ay, .complex .f32 bx b_y, .complex .f32 cx cy, .float .f32 r, .float .f32 g, .float .f32 b, .float .f32 ck] 56))).cell? ⟨wr.heap.size, 6, none⟩ = some (.float .f32 ck) := by go_simp
        have bel : Below wS.heap.size wS ((wr.alloc (.cells #[.complex .f32 ax ay, .complex .f32 bx b_y, .complex .f32 cx cy, .float .f32 r, .float .f32 g, .float .f32 b, .float .f32 ck] 56))) := bel.alloc bel.size _
        generalize (wr.alloc (.cells #[.complex .f32 ax ay, .complex .f32 bx b_y, .complex .f32 cx cy, .float .f32 r, .float .f32 g, .float .f32 b, .float .f32 ck] 56)) = wA at s0 s1 s2 s3 s4 s5 s6 bel ⊢
        have hswA := bel.size
        clear c0 c1 c2 c3 c4 c5 c6
        go_wp2_with fail
        refine (B1.out _).mono ?_
        rintro e w2 ⟨rfl, nb⟩
        have s0 := keepc nb s0
        have s1 := keepc nb s1
        have s2 := keepc nb s2
        have s3 := keepc nb s3
        have s4 := keepc nb s4
        have s5 := keepc nb s5
        have s6 := keepc nb s6
        have bel := belowOf bel nb
        clear nb
        go_wp2_with fail
        refine (HL1.out _).mono ?_
        rintro e w3 ⟨rfl, nb⟩
        have s0 := keepc nb s0
        have s1 := keepc nb s1
        have s2 := keepc nb s2
        have s3 := keepc nb s3
        have s4 := keepc nb s4
        have s5 := keepc nb s5
        have s6 := keepc nb s6
        have bel := belowOf bel nb
        clear nb
        go_wp2_with fail
        refine (HL2.out _).mono ?_
        rintro e w4 ⟨rfl, nb⟩
        have s0 := keepc nb s0
        have s1 := keepc nb s1
        have s2 := keepc nb s2
        have s3 := keepc nb s3
        have s4 := keepc nb s4
        have s5 := keepc nb s5
        have s6 := keepc nb s6
        have bel := belowOf bel nb
        clear nb
        go_wp2_with fail
        refine (HL3.out _).mono ?_
        rintro e w5 ⟨rfl, nb⟩
        have s0 := keepc nb s0
        have s1 := keepc nb s1
        have s2 := keepc nb s2
        have s3 := keepc nb s3
        have s4 := keepc nb s4
        have s5 := keepc nb s5
        have s6 := keepc nb s6
        have bel := belowOf bel nb
        clear nb
        go_wp2_with fail
        refine (A1.out _).mono ?_
        rintro e w6 ⟨rfl, nb⟩
        have s0 := keepc nb s0
        have s1 := keepc nb s1
        have s2 := keepc nb s2
        have s3 := keepc nb s3
        have s4 := keepc nb s4
        have s5 := keepc nb s5
        have s6 := keepc nb s6
        have bel := belowOf bel nb
        clear nb
        go_wp2_with fail
        go_roundw
        case rel => exact ⟨k + 1, by omega, by go_num, bel⟩
        case measure => simp [intOf]; omega
      · obtain rfl : k = n := by omega
        go_wp2_with fail
        refine (isPoint_y x y _ HPT.out).mono ?_
        rintro e w' ⟨rfl, rfl⟩
        go_wp2_with fail
        go_ret
        exact ⟨rfl, belowOf belw bel⟩

open Go.ChangeShapes Go.WideShapes Go.ChangeAt Go.Joins
open Go.ChangeMaps (open_string shut_string)

set_option maxRecDepth 100000 in
theorem fnCorners_lifted (os : Os) (started : os.Started) (H : Type) (enc : TypeId × Value → H) :
    ReturnsInHanded {} Try.checked os 9 .any (Rows.fnCornersSpec.pre6 enc Try.prog Try.f9 Rows.fnCornersRow.domain false) (Rows.fnCornersSpec.post enc Try.prog Try.f9 false true false false) := by
  refine returnsInHanded_of_change (C := Try.checked) Try.own started (by kernel_rfl) Try.func9
    (ChangeSpec.witness6 (enc := enc) (C := Try.checked) false ⟨#[], #[.slice none 0 0], []⟩ 8 (by kernel_rfl) (by kernel_rfl) (by kernel_rfl) (by kernel_rfl)) ?_
  intro W base args ds gs before hval0 hW _ _
  have hval : ∀ (j : Nat) t v, Try.f9.params[j]? = some t → args[j]? = some v → Value.okWide Try.prog W .any base t v := hval0
  have hW' := hW
  obtain ⟨p, q, hA0, hV, rfl, _, _⟩ := hW
  have hA : DataW.TrodAll enc Try.prog W 0 (fun _ => true) true Try.f9.params.toList args.toList ds p := hA0
  rw [Try.params9] at hA hval
  obtain ⟨v0, vs0, d0, ds0, p0, q0, hargs, rfl, rfl, h0, r0⟩ := trodAll_cons hA
  obtain ⟨rfl, rfl, rfl⟩ := trodAll_nil r0
  obtain rfl : args = #[v0] := by cases args; simp_all
  obtain ⟨rfl, rfl⟩ := trodVars_none hV
  have k0 := h0
  have lt0 : ∀ x ∈ p0, x.block < W.heap.size := by obtain ⟨m, hm⟩ := k0; exact DataW.trod_lt m _ _ _ hm
  obtain ⟨a0, len0, cap0, rfl⟩ := okWide_slice Try.underlying22 (hval 0 22 v0 rfl rfl)
  obtain ⟨z0, w0⟩ : ∃ zs, IsRow .u8 W a0 len0 cap0 zs := by
    obtain ⟨fuel, hf⟩ := h0
    rcases open_ints Try.underlying22 Try.underlying5 (by kernel_rfl) hf with ⟨hcs, _⟩ | ⟨x, l, c, zs, hcs, _, hl, hm, hz, _, hcell, hwz⟩
    · simp [Value.cells] at hcs
      obtain ⟨rfl, rfl, rfl⟩ := hcs
      exact ⟨[], .inl ⟨rfl, rfl, rfl, rfl⟩⟩
    · simp [Value.cells] at hcs
      obtain ⟨rfl, rfl, rfl⟩ := hcs
      exact ⟨zs, .inr ⟨_, rfl, hl, hm, by simpa using hz, hcell, hwz⟩⟩
  clear hA0 hval0
  refine (FnCorners_walk a0 len0 cap0 z0 W w0).mono fun e W' ⟨he, bel⟩ => ?_
  subst he
  exact ⟨_, rfl, _, _, _, [], _, [], hW', trodAll_mk1 (shut_bool Try.underlying4 _), (trodAll_cons_mk (Below.trod Try.laidOut (by kernel_rfl) (of_decide_eq_true (by kernel_rfl)) k0 bel lt0) trodAll_mk0), rfl, bel.frame _, fun h => by cases h⟩

/-- The statement. -/
theorem fnCorners_proved : Rows.FnCornersSaid :=
  OpenClaim.holds_of_wide 9 Try.f9 rfl rfl rfl rfl rfl rfl rfl ⟨rfl, rfl, rfl, rfl, rfl⟩ rfl rfl rfl rfl rfl (by kernel_rfl) Try.func9 (by kernel_rfl)
    (of_decide_eq_true (by kernel_rfl)) (by unfold Func.isWrapper; rw [if_neg (of_decide_eq_false (by kernel_rfl))]; exact ⟨rfl, rfl⟩)
    (fun os started H enc _ => fnCorners_lifted os started H enc)
#print axioms fnCorners_proved

end Go.Proofs.Ytgafdkaiiajieaa
