/- slices.SortFunc on a row of points: the row stays a row of as many of the same points. Condition: at most 8 points. -/
import Derived.Test.YtgafdkaiiajieaaAct
import Derived.Deep.RegionHeld3
import Derived.Deep.CutRange
namespace Go.Proofs.Ytgafdkaiiajieaa
open Go.RowKit
open Fl

theorem ownsBelowZ {wA W : World} {base : Nat} {E : TypeId} {size : Nat} {v : Value} {n : Nat} {xs : List Value} (h : wA.ownsRow base E size v n xs) (k : Below wA.heap.size wA W) : W.ownsRow base E size v n xs := by
  obtain ⟨h1, h2⟩ := h
  refine ⟨h1, ?_⟩
  rcases h2 with h2 | ⟨g, cap, cur, rfl, hb, hg, hr⟩
  · exact .inl h2
  · refine .inr ⟨g, cap, cur, rfl, hb, ?_, hr⟩
    have hlt : g < wA.heap.size := by
      rcases Nat.lt_or_ge g wA.heap.size with hlt | hge
      · exact hlt
      · rw [Array.getElem?_eq_none hge] at hg; cases hg
    rw [k.block g hlt]; exact hg

theorem ownsBaseZ {w : World} {base base' : Nat} {E : TypeId} {size : Nat} {v : Value} {n : Nat} {xs : List Value} (h : w.ownsRow base E size v n xs) (k : base' ≤ base) : w.ownsRow base' E size v n xs := by
  obtain ⟨h1, h2⟩ := h
  refine ⟨h1, ?_⟩
  rcases h2 with h2 | ⟨g, cap, cur, rfl, hb, hg, hr⟩
  · exact .inl h2
  · exact .inr ⟨g, cap, cur, rfl, by omega, hg, hr⟩

/-- A point as a value. -/
def cv (p : Nat × Nat) : Value := .complex .f32 p.1 p.2

/-- A row of points in new memory. -/
def RowZ (base : Nat) (w : World) (v : Value) (zs : List (Nat × Nat)) : Prop := w.ownsRow base 24 1 v zs.length (zs.map cv)

/-- How the program compares two points. -/
def cmpZ (a b : Nat × Nat) : Int :=
  if (FloatKind.f32.format.order a.1 b.1 == some .lt || (FloatKind.f32.format.order a.1 b.1 == some .eq && FloatKind.f32.format.order a.2 b.2 == some .lt)) then -1
  else if (FloatKind.f32.format.order a.1 b.1 == some .eq && FloatKind.f32.format.order a.2 b.2 == some .eq) then 0 else 1

set_option maxHeartbeats 1000000 in
theorem cmpZ_any (a b : Nat × Nat) (w : World) :
    Calls Try.prog 49 #[cv a, cv b] w fun e w' => e = .returned (.int .i64 (cmpZ a b)) ∧ w = w' := by
  obtain ⟨x, y⟩ := a
  obtain ⟨x', y'⟩ := b
  unfold cmpZ cv
  rcases h1 : FloatKind.f32.format.order x x' with _ | _ | _ | _ <;> rcases h2 : FloatKind.f32.format.order y y' with _ | _ | _ | _
  all_goals
    go_enter Try.func49, Try.ntmps49
    go_wp2
    go_ret
    exact ⟨rfl, rfl⟩

/-- A row of n points at block g, each of them of the list zs. -/
structure InZ (base g n cap : Nat) (zs : List (Nat × Nat)) (w0 wr : World) (zs' : List (Nat × Nat)) : Prop where
  len : zs'.length = n
  sub : ∀ p ∈ zs', p ∈ zs
  row : RowZ base wr (.slice (some ⟨g, 0, none⟩) n cap) zs'
  bel : Below base w0 wr
  low : base ≤ wr.heap.size

theorem InZ.at {base g n cap : Nat} {zs zs' : List (Nat × Nat)} {w0 wr : World} (h : InZ base g n cap zs w0 wr zs') (j : Nat) (hj : j < n) :
    wr.cell? ⟨g, j, none⟩ = some (cv (zs'.getD j (0, 0))) ∧ wr.frozen? ⟨g, j, none⟩ = false := by
  have hl := h.len
  have hr : wr.ownsRow base 24 1 (.slice (some ⟨g, 0, none⟩) n cap) zs'.length (zs'.map cv) := h.row
  rw [hl] at hr
  refine ⟨(hr.cellAt j (by omega)).trans ?_, hr.frozenAt j⟩
  rw [List.getElem?_map, List.getElem?_eq_getElem (by omega)]
  simp [List.getD, List.getElem?_eq_getElem (show j < zs'.length by omega)]

theorem InZ.below {base g n cap : Nat} {zs zs' : List (Nat × Nat)} {w0 wr W : World} (h : InZ base g n cap zs w0 wr zs') (hb : Below wr.heap.size wr W) : InZ base g n cap zs w0 W zs' :=
  ⟨h.len, h.sub, ownsBelowZ h.row hb, h.bel.trans (hb.mono h.low), Nat.le_trans h.low hb.size⟩

/-- Two neighbours exchanged. -/
theorem InZ.swap {base g n cap : Nat} {zs zs' : List (Nat × Nat)} {w0 wr : World} (h : InZ base g n cap zs w0 wr zs') (q : Nat) (hq : q + 1 < n) :
    InZ base g n cap zs w0 ((wr.setCell ⟨g, q + 1, none⟩ (cv (zs'.getD q (0, 0)))).setCell ⟨g, q, none⟩ (cv (zs'.getD (q + 1) (0, 0)))) ((zs'.set (q + 1) (zs'.getD q (0, 0))).set q (zs'.getD (q + 1) (0, 0))) := by
  have hl := h.len
  have hr : wr.ownsRow base 24 1 (.slice (some ⟨g, 0, none⟩) n cap) zs'.length (zs'.map cv) := h.row
  rw [hl] at hr
  have hg : base ≤ g := (hr.lt g rfl).1
  obtain ⟨h1, g1⟩ := hr.stored (q + 1) (cv (zs'.getD q (0, 0)))
  obtain ⟨h2, g2⟩ := h1.stored q (cv (zs'.getD (q + 1) (0, 0)))
  refine ⟨by simp [hl], fun p hp => ?_, ?_, (h.bel.setCell (p := ⟨g, q + 1, none⟩) hg _).setCell (p := ⟨g, q, none⟩) hg _, by simpa [World.setCell] using h.low⟩
  · have i1 : zs'.getD q (0, 0) ∈ zs' := by simp [List.getD, List.getElem?_eq_getElem (show q < zs'.length by omega)]
    have i2 : zs'.getD (q + 1) (0, 0) ∈ zs' := by simp [List.getD, List.getElem?_eq_getElem (show q + 1 < zs'.length by omega)]
    rcases List.mem_or_eq_of_mem_set hp with hp | rfl
    · rcases List.mem_or_eq_of_mem_set hp with hp | rfl
      · exact h.sub _ hp
      · exact h.sub _ i1
    · exact h.sub _ i2
  · unfold RowZ
    rw [List.length_set, List.length_set, hl, List.map_set, List.map_set]
    exact h2

set_option maxRecDepth 100000 in
set_option maxHeartbeats 4000000 in
theorem insZ_any (base g n cap : Nat) (zs : List (Nat × Nat)) (w : World) (h0 : InZ base g n cap zs w w zs) (hn : n ≤ 8) :
    Calls Try.prog 87 #[.slice (some ⟨g, 0, none⟩) n cap, .int .i64 0, .int .i64 n, .func (.func 49) #[] #[]] w
      fun e w' => e = .returned (.tuple #[]) ∧ ∃ zs', InZ base g n cap zs w w' zs' := by
  have H0 := hide h0
  clear h0
  go_enter Try.func87, Try.ntmps87
  go_wp2_with fail
  go_loopw [8] (fun i wr => ∃ (k : Nat) (zk : List (Nat × Nat)), 1 ≤ k ∧ k ≤ n + 1 ∧ i = .int .i64 k ∧ Hid (InZ base g n cap zs w wr zk)) (fun i _ => n + 1 - (intOf i).toNat)
  case atStart => exact ⟨1, zs, Nat.le_refl _, by omega, rfl, H0⟩
  case round =>
    clear H0
    obtain ⟨k, zk, hk1, hk, rfl, HK⟩ := hrel
    by_cases hlt : k < n
    · go_wp2_with fail
      go_loopw [9] (fun j w2 => ∃ (q : Nat) (zq : List (Nat × Nat)), q ≤ k ∧ j = .int .i64 q ∧ Hid (InZ base g n cap zs w w2 zq)) (fun j _ => (intOf j).toNat)
      case atStart => exact ⟨k, zk, Nat.le_refl _, rfl, HK⟩
      case round =>
        clear HK
        obtain ⟨q, zq, hq, rfl, HQ⟩ := hrel
        by_cases hpos : 0 < q
        · obtain ⟨p, rfl⟩ : ∃ p, q = p + 1 := ⟨q - 1, by omega⟩
          obtain ⟨c1, f1⟩ := HQ.out.at (p + 1) (by omega)
          obtain ⟨c0, f0⟩ := HQ.out.at p (by omega)
          have HD := hide (HQ.out.below (Below.refl _ _).drew)
          have HS := hide (HD.out.swap p (by omega))
          obtain ⟨A, hA⟩ : ∃ A, zq.getD (p + 1) (0, 0) = A := ⟨_, rfl⟩
          obtain ⟨B, hB⟩ : ∃ B, zq.getD p (0, 0) = B := ⟨_, rfl⟩
          rw [hA] at c1 HS
          rw [hB] at c0 HS
          clear hA hB
          obtain ⟨ax, ay⟩ := A
          obtain ⟨bx, b_y⟩ := B
          have c1 : wr.cell? ⟨g, p + 1, none⟩ = some (.complex .f32 ax ay) := c1
          have c0 : wr.cell? ⟨g, p, none⟩ = some (.complex .f32 bx b_y) := c0
          generalize (zq.set (p + 1) (bx, b_y)).set p (ax, ay) = zs1 at HS
          have HS : Hid (InZ base g n cap zs w ((wr.drew.setCell ⟨g, p + 1, none⟩ (.complex .f32 bx b_y)).setCell ⟨g, p, none⟩ (.complex .f32 ax ay)) zs1) := HS
          have HC := hide (show ∀ W, Calls Try.prog 49 #[.complex .f32 ax ay, .complex .f32 bx b_y] W fun e w' => e = .returned (.int .i64 (cmpZ (ax, ay) (bx, b_y))) ∧ W = w' from fun W => cmpZ_any (ax, ay) (bx, b_y) W)
          generalize cmpZ (ax, ay) (bx, b_y) = cc at HC
          have hz0 : (0 : Int) ≤ (p : Int) + 1 := by omega
          have hz1 : (0 : Int) < (p : Int) + 1 := by omega
          have hz2 : (p : Int) + 1 < (n : Int) := by omega
          have hz3 : (p : Int) < (n : Int) := by omega
          have hz4 : ((p : Int) + 1).toNat = p + 1 := by omega
          have hz5 : IntKind.i64.wrap (p : Int) = (p : Int) := by rw [IntKind.wrap_i64]; omega
          by_cases hc : cc < 0
          · go_wp2_with fail
            go_region_held3 (fun w' => w'.cell? ⟨g, p + 1, none⟩ = some (.complex .f32 ax ay) ∧ w'.cell? ⟨g, p, none⟩ = some (.complex .f32 bx b_y))
              (exact ⟨keepc (by repeat (first | exact Below.refl _ _ | assumption | refine Below.drew ?_ | refine Below.setCell ?_ (by first | (dsimp only; omega) | (simp; omega) | simp) _ | refine Below.alloc ?_ (by first | omega | (simp; omega) | simp) _)) c1, keepc (by repeat (first | exact Below.refl _ _ | assumption | refine Below.drew ?_ | refine Below.setCell ?_ (by first | (dsimp only; omega) | (simp; omega) | simp) _ | refine Below.alloc ?_ (by first | omega | (simp; omega) | simp) _)) c0⟩)
              (first | (go_at_call 49; (with_reducible refine (HC.out _).mono ?_); rintro e w' ⟨rfl, rfl⟩))
            have d1 : wr.drew.cell? ⟨g, p + 1, none⟩ = some (.complex .f32 ax ay) := by go_simp
            have d0 : wr.drew.cell? ⟨g, p, none⟩ = some (.complex .f32 bx b_y) := by go_simp
            have e1 : wr.drew.frozen? ⟨g, p + 1, none⟩ = false := by go_simp
            have e0 : wr.drew.frozen? ⟨g, p, none⟩ = false := by go_simp
            clear c1 c0 f1 f0 HD HQ
            generalize wr.drew = wd at d1 d0 e1 e0 HS ⊢
            go_wp2_with fail
            go_region
            have HS := hide (HS.out.below (Below.refl _ _).drew)
            generalize ((wd.setCell ⟨g, p + 1, none⟩ (.complex .f32 bx b_y)).setCell ⟨g, p, none⟩ (.complex .f32 ax ay)).drew = we at HS ⊢
            clear d1 d0 e1 e0
            go_wp2_with fail
            go_roundw
            case rel => exact ⟨p, zs1, by omega, by go_num, HS⟩
            case measure => simp [intOf]
          · go_wp2_with fail
            go_region_held3 (fun w' => w'.cell? ⟨g, p + 1, none⟩ = some (.complex .f32 ax ay) ∧ w'.cell? ⟨g, p, none⟩ = some (.complex .f32 bx b_y))
              (exact ⟨keepc (by repeat (first | exact Below.refl _ _ | assumption | refine Below.drew ?_ | refine Below.setCell ?_ (by first | (dsimp only; omega) | (simp; omega) | simp) _ | refine Below.alloc ?_ (by first | omega | (simp; omega) | simp) _)) c1, keepc (by repeat (first | exact Below.refl _ _ | assumption | refine Below.drew ?_ | refine Below.setCell ?_ (by first | (dsimp only; omega) | (simp; omega) | simp) _ | refine Below.alloc ?_ (by first | omega | (simp; omega) | simp) _)) c0⟩)
              (first | (go_at_call 49; (with_reducible refine (HC.out _).mono ?_); rintro e w' ⟨rfl, rfl⟩))
            clear c1 c0 f1 f0 HQ HS
            generalize wr.drew = wd at HD ⊢
            go_wp2_with fail
            go_roundw
            case rel => exact ⟨k + 1, zq, by omega, by omega, by go_num, HD⟩
            case measure => simp [intOf]; omega
        · obtain rfl : q = 0 := by omega
          have HD := hide (HQ.out.below (Below.refl _ _).drew)
          clear HQ
          go_wp2_with fail
          go_region
          generalize wr.drew = wd at HD ⊢
          go_wp2_with fail
          go_roundw
          case rel => exact ⟨k + 1, zq, by omega, by omega, by go_num, HD⟩
          case measure => simp [intOf]; omega
    · go_wp2_with fail
      go_end0
      exact ⟨rfl, zk, HK.out⟩

set_option maxRecDepth 100000 in
set_option maxHeartbeats 4000000 in
theorem pdqZ_any (base g n cap : Nat) (lim : Int) (zs : List (Nat × Nat)) (w : World) (h0 : InZ base g n cap zs w w zs) (hn : n ≤ 8) :
    Calls Try.prog 77 #[.slice (some ⟨g, 0, none⟩) n cap, .int .i64 0, .int .i64 n, .int .i64 lim, .func (.func 49) #[] #[]] w
      fun e w' => e = .returned (.tuple #[]) ∧ ∃ zs', InZ base g n cap zs w w' zs' := by
  have HX := hide (insZ_any base g n cap zs w h0 hn)
  have hle : (n : Int) ≤ 12 := by omega
  have hwr : IntKind.i64.wrap (n : Int) = (n : Int) := by rw [IntKind.wrap_i64]; omega
  clear h0
  go_enter Try.func77, Try.ntmps77
  go_wp2_with fail
  refine wp_loop_rounds 1 ?_
  rw [rounds_succ]
  go_wp2_with fail
  refine HX.out.mono ?_
  rintro e w' ⟨rfl, hz⟩
  have HZ := hide hz
  clear hz
  go_wp2_with fail
  (try simp only [Exit.inBlock, Exit.then])
  refine bodyPost_ret (results_none rfl _ _ _) rfl ?_
  exact ⟨rfl, HZ.out⟩

set_option maxRecDepth 100000 in
set_option maxHeartbeats 2000000 in
theorem len64_any (n : Nat) (w : World) (hn : n ≤ 8) : Calls Try.prog 96 #[.int .u64 n] w fun e w' => (∃ l : Int, e = .returned (.int .i64 l)) ∧ w = w' := by
  have h : n = 0 ∨ n = 1 ∨ n = 2 ∨ n = 3 ∨ n = 4 ∨ n = 5 ∨ n = 6 ∨ n = 7 ∨ n = 8 := by omega
  rcases h with rfl | rfl | rfl | rfl | rfl | rfl | rfl | rfl | rfl
  all_goals
    go_enter Try.func96, Try.ntmps96
    go_wp2
    go_ret
    exact ⟨⟨_, rfl⟩, rfl⟩

theorem len_any (n : Nat) (w : World) (hn : n ≤ 8) : Calls Try.prog 78 #[.int .u64 n] w fun e w' => (∃ l : Int, e = .returned (.int .i64 l)) ∧ w = w' := by
  have HX := hide (len64_any n w hn)
  go_enter Try.func78, Try.ntmps78
  go_wp2_with fail
  refine HX.out.mono ?_
  rintro e w' ⟨⟨l, rfl⟩, rfl⟩
  go_wp2_with fail
  go_ret
  exact ⟨⟨_, rfl⟩, rfl⟩

set_option maxRecDepth 100000 in
set_option maxHeartbeats 4000000 in
theorem sortZ_any (base g n cap : Nat) (zs : List (Nat × Nat)) (w : World) (h0 : InZ base g n cap zs w w zs) (hn : n ≤ 8) :
    Calls Try.prog 48 #[.slice (some ⟨g, 0, none⟩) n cap, .func (.func 49) #[] #[]] w
      fun e w' => e = .returned (.tuple #[]) ∧ ∃ zs', InZ base g n cap zs w w' zs' := by
  have HX := hide (fun lim => pdqZ_any base g n cap lim zs w h0 hn)
  have HL := hide (len_any n w hn)
  have hwr : IntKind.u64.wrap (n : Int) = (n : Int) := by simp [IntKind.wrap, IntKind.signed, IntKind.bits]; omega
  clear h0
  go_enter Try.func48, Try.ntmps48
  go_wp2_with fail
  refine HL.out.mono ?_
  rintro e w' ⟨⟨l, rfl⟩, rfl⟩
  go_wp2_with fail
  refine (HX.out _).mono ?_
  rintro e w' ⟨rfl, hz⟩
  have HZ := hide hz
  clear hz
  go_wp2_with fail
  go_end0
  exact ⟨rfl, HZ.out⟩

end Go.Proofs.Ytgafdkaiiajieaa
