/- The law FnOrbit: as many images as a point has, times as many symmetries as keep it, are all symmetries. No condition. -/
import Derived.Test.YtgafdkaiiajieaaOrbP
import Derived.Test.YtgafdkaiiajieaaHasS
import Derived.Test.YtgafdkaiiajieaaDrawPt
import Derived.Test.YtgafdkaiiajieaaBig
namespace Go.Proofs.Ytgafdkaiiajieaa
open Go.RowKit Go.Sort
open Fl

set_option maxRecDepth 100000 in
set_option maxHeartbeats 4000000 in
theorem FnOrbit_walk (a : Option Addr) (len cap : Nat) (z : List Int) (w : World) (hz : IsRow .u8 w a len cap z) :
    Calls Try.prog 4 #[.slice a len cap] w fun e w' => e = .returned (.bool true) ∧ Below w.heap.size w w' := by
  have HC := hide (isCode_of_row hz)
  have hm := (isCode_of_row hz).1
  clear hz
  by_cases hb : 4096 < len
  · go_enter Try.func4, Try.ntmps4
    go_wp2_with fail
    refine (big_any _ _ _ _).mono ?_
    rintro e w' ⟨rfl, rfl⟩
    go_wp2_with fail
    go_ret
    exact ⟨rfl, Below.refl _ _⟩
  · go_enter Try.func4, Try.ntmps4
    go_wp2_with fail
    refine (big_any _ _ _ _).mono ?_
    rintro e w' ⟨rfl, rfl⟩
    go_wp2_with fail
    refine (drawPlace_any _ _ _ _ HC.out).mono ?_
    rintro e w1 ⟨kind, x, y, rfl, k0, k3, hpt, bel⟩
    obtain ⟨hcnt, hkpos⟩ := orbit_count k0 k3 hpt
    have hle := symsOf_le kind
    have hpos : 0 < (symsOf kind).length := by
      obtain ⟨t, f, hm, _⟩ := wedge_some k0 k3 (val x, val y)
      exact List.length_pos_of_mem hm
    have OR := hide (fun W => orbitOf_any kind x y W hpt hpos)
    have KP := hide (fun W => keepersOf_any kind x y W hpt hpos)
    have HS := hide (fun W => symsOf_any kind W)
    have olen := orbL_len x y (symsOf kind)
    have klen : (keepL kind x y).length ≤ (symsOf kind).length := List.length_filter_le _ _
    have HE := hide (fun s (hs : s ∈ keepL kind x y) => show (∀ W, Calls Try.prog 17 #[.agg #[.int .i64 s.1, .bool s.2], .complex .f32 x y] W fun e w' => e = .returned (.complex .f32 (actW s.1 s.2 x y).1 (actW s.1 s.2 x y).2) ∧ Below W.heap.size W w') ∧
        (FloatKind.f32.format.order (actW s.1 s.2 x y).1 x == some .eq) = true ∧ (FloatKind.f32.format.order (actW s.1 s.2 x y).2 y == some .eq) = true ∧
        ∀ a cap W, ReadsS W a (symsOf kind).length cap (symsOf kind) → Calls Try.prog 15 #[.slice a (symsOf kind).length cap, .agg #[.int .i64 s.1, .bool s.2]] W fun e w' => e = .returned (.bool true) ∧ Below W.heap.size W w' from by
      unfold keepL at hs
      obtain ⟨hm, hk⟩ := List.mem_filter.1 hs
      have hk2 : (FloatKind.f32.format.order (actW s.1 s.2 x y).1 x == some .eq && FloatKind.f32.format.order (actW s.1 s.2 x y).2 y == some .eq) = true := hk
      rw [Bool.and_eq_true] at hk2
      refine ⟨fun W => actSym_y s.1 s.2 x y W (symsOf_win hm) hpt, hk2.1, hk2.2, fun a cap W h => ?_⟩
      have := has_any a (symsOf kind).length cap (symsOf kind) s.1 s.2 W h hle
      rw [has_of_mem hm] at this
      exact this)
    unfold RetOrb at OR
    unfold RetKeep at KP
    clear hpos hpt k0 k3 HC
    generalize symsOf kind = l at hcnt hle OR HS HE olen klen
    generalize keepL kind x y = KL at hcnt hkpos KP HE klen
    generalize orbL x y l = O at hcnt OR olen
    go_wp2_with fail
    refine (OR.out _).mono ?_
    rintro e w2 ⟨v, zs, rfl, hrow, hlen, _, hb2⟩
    obtain ⟨aZ, cZ, rfl, _⟩ := readsZ_of_row hrow
    rw [hlen] at *
    have bel := belowOf bel hb2
    clear hrow hlen hb2 OR
    go_wp2_with fail
    refine (KP.out _).mono ?_
    rintro e w3 ⟨g, m, ck, rfl, hmK, hat, hb3⟩
    have bel := belowOf bel hb3
    rw [← hmK] at hcnt hkpos
    have HMK := hide hmK
    have HAT := hide hat
    clear hb3 KP hmK hat
    generalize O.length = N at hcnt olen ⊢
    have HS2 : Hid (∀ W, Calls Try.prog 16 #[.int .i64 kind] W (RetSyms W l)) := HS
    have hm8 : m ≤ 8 := by rw [HMK.out]; omega
    clear klen
    go_wp2_with fail
    go_loopw [7] (fun i wr => ∃ k : Nat, k ≤ m ∧ i = .int .i64 k ∧ Below w3.heap.size w3 wr) (fun i _ => m - (intOf i).toNat)
    case atStart => exact ⟨0, Nat.zero_le _, rfl, Below.refl _ _⟩
    case round =>
      obtain ⟨k, hk, rfl, hb5⟩ := hrel
      by_cases hlt : k < m
      · obtain ⟨x0, x1⟩ := HAT.out k hlt
        have x0 := keepc hb5 x0
        have x1 := keepc hb5 x1
        obtain ⟨A, h1, h2, HH⟩ := HE.out (KL.getD k (0, false)) (by
          have hkl : k < KL.length := by rw [← HMK.out]; exact hlt
          simp [List.getD, List.getElem?_eq_getElem hkl])
        have A := hide A
        have HH := hide HH
        generalize KL.getD k (0, false) = s at x0 x1 A h1 h2 HH
        obtain ⟨T, F⟩ := s
        simp only at x0 x1 h1 h2
        replace A : Hid (∀ W, Calls Try.prog 17 #[.agg #[.int .i64 T, .bool F], .complex .f32 x y] W fun e w' => e = .returned (.complex .f32 (actW T F x y).1 (actW T F x y).2) ∧ Below W.heap.size W w') := A
        replace HH : Hid (∀ a cap W, ReadsS W a l.length cap l → Calls Try.prog 15 #[.slice a l.length cap, .agg #[.int .i64 T, .bool F]] W fun e w' => e = .returned (.bool true) ∧ Below W.heap.size W w') := HH
        generalize actW T F x y = P at A h1 h2
        obtain ⟨px, py⟩ := P
        simp only at h1 h2
        replace A : Hid (∀ W, Calls Try.prog 17 #[.agg #[.int .i64 T, .bool F], .complex .f32 x y] W fun e w' => e = .returned (.complex .f32 px py) ∧ Below W.heap.size W w') := A
        obtain ⟨wA, hwA⟩ : ∃ q, q = wr := ⟨_, rfl⟩
        subst hwA
        go_upto_region 9 with fail
        go_region_held3 (fun w' => w'.cell? ⟨g, k * 2, none⟩ = some (.int .i64 T) ∧ w'.cell? ⟨g, k * 2 + 1, none⟩ = some (.bool F))
          ((refine (show Below wA.heap.size wA _ → _ from fun hk => ⟨keepc hk x0, keepc hk x1⟩) ?_; first | (with_reducible exact Below.refl _ _) | (with_reducible exact (Below.refl _ _).drew) | (with_reducible exact bw1) | (with_reducible exact bw1.drew) | (with_reducible exact bw2) | (with_reducible exact bw2.drew) | (with_reducible exact bw3) | (with_reducible exact bw3.drew)))
          (first | (go_at_call 17; (with_reducible refine (A.out _).mono ?_); rintro e w1' ⟨rfl, hb1⟩; have bw1 := belowOf (w := wA) (by first | (with_reducible exact Below.refl _ _) | (with_reducible exact (Below.refl _ _).drew) | (with_reducible exact ((Below.refl _ _).alloc (Nat.le_refl _) _)) | (with_reducible exact ((Below.refl _ _).alloc (Nat.le_refl _) _).drew) | (with_reducible exact ((Below.refl _ _).drew.alloc (Nat.le_refl _) _))) hb1; clear hb1) | (go_at_call 16; (with_reducible refine (HS2.out _).mono ?_); rintro e w2' ⟨vS, rfl, hownS, hb2⟩; obtain ⟨aS, cS, rfl, hrS⟩ := readsS_of_own hownS; have bw2 := belowOf bw1 (belowOf (w := w1') (by first | (with_reducible exact Below.refl _ _) | (with_reducible exact (Below.refl _ _).drew) | (with_reducible exact ((Below.refl _ _).alloc (Nat.le_refl _) _)) | (with_reducible exact ((Below.refl _ _).alloc (Nat.le_refl _) _).drew) | (with_reducible exact ((Below.refl _ _).drew.alloc (Nat.le_refl _) _))) hb2); clear hownS hb2) | (go_at_call 15; (with_reducible refine (HH.out _ _ _ (hrS.below (by first | (with_reducible exact Below.refl _ _) | (with_reducible exact (Below.refl _ _).drew) | (with_reducible exact ((Below.refl _ _).alloc (Nat.le_refl _) _)) | (with_reducible exact ((Below.refl _ _).alloc (Nat.le_refl _) _).drew) | (with_reducible exact ((Below.refl _ _).drew.alloc (Nat.le_refl _) _))))).mono ?_); rintro e w3' ⟨rfl, hb3⟩; have bw3 := belowOf bw2 (belowOf (w := w2') (by first | (with_reducible exact Below.refl _ _) | (with_reducible exact (Below.refl _ _).drew) | (with_reducible exact ((Below.refl _ _).alloc (Nat.le_refl _) _)) | (with_reducible exact ((Below.refl _ _).alloc (Nat.le_refl _) _).drew) | (with_reducible exact ((Below.refl _ _).drew.alloc (Nat.le_refl _) _))) hb3); clear hb3))
        have hb6 := belowOf hb5 bw3
        clear bw1 bw2 bw3 hrS A HH h1 h2 x0 x1 hb5
        go_wp2_with fail
        go_roundw
        case rel => exact ⟨k + 1, by omega, by go_num, hb6⟩
        case measure => simp [intOf]; omega
      · obtain rfl : k = m := by omega
        have bel := belowOf bel hb5
        have hmul : (N : Int) * (k : Int) = (l.length : Int) := by rw [← hcnt]; simp
        have hwr : IntKind.i64.wrap ((N : Int) * (k : Int)) = (l.length : Int) := by rw [hmul, IntKind.wrap_i64]; omega
        have hwl : IntKind.i64.wrap (l.length : Int) = (l.length : Int) := by rw [IntKind.wrap_i64]; omega
        have hkI : (0 : Int) < (k : Int) := by omega
        clear HE HAT HMK HS hcnt
        go_wp2_with fail
        refine (HS2.out _).mono ?_
        rintro e w6 ⟨vS, rfl, ownS, hb6⟩
        obtain ⟨aS, cS, rfl, _⟩ := readsS_of_own ownS
        have bel := belowOf bel hb6
        clear ownS hb6 HS2
        generalize l.length = n at hmul hwr hwl ⊢
        go_wp2_with fail
        go_ret
        exact ⟨rfl, bel⟩

open Go.ChangeShapes Go.WideShapes Go.ChangeAt Go.Joins
open Go.ChangeMaps (open_string shut_string)

set_option maxRecDepth 100000 in
theorem fnOrbit_lifted (os : Os) (started : os.Started) (H : Type) (enc : TypeId × Value → H) :
    ReturnsInHanded {} Try.checked os 4 .any (Rows.fnOrbitSpec.pre6 enc Try.prog Try.f4 Rows.fnOrbitRow.domain false) (Rows.fnOrbitSpec.post enc Try.prog Try.f4 false true false false) := by
  refine returnsInHanded_of_change (C := Try.checked) Try.own started (by kernel_rfl) Try.func4
    (ChangeSpec.witness6 (enc := enc) (C := Try.checked) false ⟨#[], #[.slice none 0 0], []⟩ 8 (by kernel_rfl) (by kernel_rfl) (by kernel_rfl) (by kernel_rfl)) ?_
  intro W base args ds gs before hval0 hW _ _
  have hval : ∀ (j : Nat) t v, Try.f4.params[j]? = some t → args[j]? = some v → Value.okWide Try.prog W .any base t v := hval0
  have hW' := hW
  obtain ⟨p, q, hA0, hV, rfl, _, _⟩ := hW
  have hA : DataW.TrodAll enc Try.prog W 0 (fun _ => true) true Try.f4.params.toList args.toList ds p := hA0
  rw [Try.params4] at hA hval
  obtain ⟨v0, vs0, d0, ds0, p0, q0, hargs, rfl, rfl, h0, r0⟩ := trodAll_cons hA
  obtain ⟨rfl, rfl, rfl⟩ := trodAll_nil r0
  obtain rfl : args = #[v0] := by cases args; simp_all
  obtain ⟨rfl, rfl⟩ := trodVars_none hV
  have k0 := h0
  have lt0 : ∀ x ∈ p0, x.block < W.heap.size := by obtain ⟨m, hm⟩ := k0; exact DataW.trod_lt m _ _ _ hm
  obtain ⟨a0, len0, cap0, rfl⟩ := okWide_slice Try.underlying22 (hval 0 22 v0 rfl rfl)
  obtain ⟨z0, w0⟩ : ∃ zs, IsRow .u8 W a0 len0 cap0 zs := by
    obtain ⟨fuel, hf⟩ := h0
    rcases open_ints Try.underlying22 Try.underlying5 (by kernel_rfl) hf with ⟨hcs, _⟩ | ⟨x, l, c, zs, hcs, _, hl, hm, hz, _, hcell, hwz⟩
    · simp [Value.cells] at hcs
      obtain ⟨rfl, rfl, rfl⟩ := hcs
      exact ⟨[], .inl ⟨rfl, rfl, rfl, rfl⟩⟩
    · simp [Value.cells] at hcs
      obtain ⟨rfl, rfl, rfl⟩ := hcs
      exact ⟨zs, .inr ⟨_, rfl, hl, hm, by simpa using hz, hcell, hwz⟩⟩
  clear hA0 hval0
  refine (FnOrbit_walk a0 len0 cap0 z0 W w0).mono fun e W' ⟨he, bel⟩ => ?_
  subst he
  exact ⟨_, rfl, _, _, _, [], _, [], hW', trodAll_mk1 (shut_bool Try.underlying4 _), (trodAll_cons_mk (Below.trod Try.laidOut (by kernel_rfl) (of_decide_eq_true (by kernel_rfl)) k0 bel lt0) trodAll_mk0), rfl, bel.frame _, fun h => by cases h⟩

/-- The statement. -/
theorem fnOrbit_proved : Rows.FnOrbitSaid :=
  OpenClaim.holds_of_wide 4 Try.f4 rfl rfl rfl rfl rfl rfl rfl ⟨rfl, rfl, rfl, rfl, rfl⟩ rfl rfl rfl rfl rfl (by kernel_rfl) Try.func4 (by kernel_rfl)
    (of_decide_eq_true (by kernel_rfl)) (by unfold Func.isWrapper; rw [if_neg (of_decide_eq_false (by kernel_rfl))]; exact ⟨rfl, rfl⟩)
    (fun os started H enc _ => fnOrbit_lifted os started H enc)
#print axioms fnOrbit_proved

end Go.Proofs.Ytgafdkaiiajieaa
