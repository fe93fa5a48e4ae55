/- What the reference's SymsOf computes: the symmetries of mirrors of a kind, in order, in new memory. For all kinds and worlds. -/
import Derived.Test.YtnpgdijafmkmkaaAll
import Derived.Test.YtnpgdijafmkmkaaSym
import Derived.Deep.AppendLies
namespace Go.Proofs.Ytnpgdijafmkmkaa
open Go.RowKit

@[go_sem] theorem eqSymOp (a c : Int) (b d : Bool) (w : World) : (Op.equalIn 10000 26 (.agg #[.int .i64 a, .bool b]) (.agg #[.int .i64 c, .bool d])).run Try.prog w = .ok (a == c && b == d) w := by
  have u3 := Try.underlying3
  have u4 := Try.underlying4
  have a3 := Try.isAgg3
  have a4 := Try.isAgg4
  have z3 := Try.sizeOf3
  have z4 := Try.sizeOf4
  have hS : Try.prog.underlying 26 = some (.struct (Try.prog.fieldsOf 26)) := by kernel_rfl
  rw [show (10000 : Nat) = 9999 + 1 from rfl, run_equalIn_agg w 9999 26 _ _ hS (by kernel_rfl)]
  simp only [Program.fieldsOf, Try.underlying26]
  go_simp
  by_cases h1 : a = c <;> cases b <;> cases d <;> simp [h1]

set_option maxHeartbeats 400000 in
theorem l1Of_any (kind t : Int) (f : Bool) (w : World) (h0 : 0 ≤ t) (h3 : t ≤ 3) :
    Calls Try.prog 49 #[.int .i64 kind, .agg #[.int .i64 t, .bool f]] w fun e w' => e = .returned (.bool (ofKind kind t f)) ∧ w.alloc (.cells #[.int .i64 t, .bool f] 26) = w' := by
  have H : Hid (ofKind kind t f = if kind = 0 then t == 0 && f == false else if kind = 1 then t == 0 else if kind = 2 then t % 2 == 0 else kind == 3) := rfl
  by_cases k0 : kind = 0
  · subst k0
    clear H
    by_cases ht : t = 0
    · subst ht
      cases f
      all_goals
        go_enter Try.func49, Try.ntmps49
        go_wp2
        go_ret
        exact ⟨by simp [ofKind], rfl⟩
    · have hb : (t == 0) = false := by simpa using ht
      have H : Hid (ofKind 0 t f = false) := by show ofKind 0 t f = false; simp [ofKind, hb]
      go_enter Try.func49, Try.ntmps49
      go_wp2
      go_ret
      exact ⟨by rw [H.out]; rfl, rfl⟩
  by_cases k1 : kind = 1
  · subst k1
    go_enter Try.func49, Try.ntmps49
    go_wp2
    go_ret
    exact ⟨by rw [H.out]; simp, rfl⟩
  by_cases k2 : kind = 2
  · subst k2
    go_enter Try.func49, Try.ntmps49
    go_wp2
    go_ret
    exact ⟨by rw [H.out]; simp, rfl⟩
  have e0 : (kind == 0) = false := by simpa using k0
  have e1 : (kind == 1) = false := by simpa using k1
  have e2 : (kind == 2) = false := by simpa using k2
  go_enter Try.func49, Try.ntmps49
  go_wp2
  go_ret
  exact ⟨by rw [H.out]; simp [k0, k1, k2], rfl⟩

set_option maxHeartbeats 1000000 in
theorem sSymsOf_any (kind : Int) (w : World) : Calls Try.prog 27 #[.int .i64 kind] w (RetSyms w (symsOf kind)) := by
  obtain ⟨i0, hi, hz0, hz1, hz2⟩ := infoParts Try.infoSym
  have HA := hide (someSyms_all kind)
  go_enter Try.func27, Try.ntmps27
  go_wp2_with fail
  refine (l1All_any _).mono ?_
  rintro e w1 ⟨va, rfl, hrow, hb1⟩
  obtain ⟨g, cap, rfl, hg1, hg2⟩ := hrow.form (by decide)
  have h16 : ∀ j, j < 16 → w1.cell? ⟨g, j, none⟩ = (symCells (allSyms 8))[j]? := fun j hj => hrow.cellAt j hj
  have hinv : OfInv w g (symCells (allSyms 8)) kind (.slice (some ⟨w.heap.size, 0, none⟩) 0 0) 0 w1 := by
    refine ⟨ownsBelow (World.ownsRow_lit w #[] 0 (Nat.le_refl _) (by unfold maxLen; omega) rfl) hb1, h16, ?_, hg2, belowOf ((Below.refl _ _).alloc (Nat.le_refl _) _) hb1⟩
    simp [Value.ownBlock]
    simp at hg1
    omega
  clear h16 hrow
  go_wp2_with fail
  go_loopw [3, 9] (fun v i wr => ∃ k : Nat, k ≤ 8 ∧ i = .int .i64 k ∧ OfInv w g (symCells (allSyms 8)) kind v k wr) (fun _ i _ => 8 - (intOf i).toNat)
  case atStart => exact ⟨0, Nat.zero_le _, rfl, hinv⟩
  case round =>
    clear hinv hb1 hg1 hg2
    obtain ⟨k, hk, rfl, hv⟩ := hrel
    by_cases hlt : k < 8
    · have c0 : wr.cell? ⟨g, k * 2, none⟩ = some (.int .i64 ((k : Int) % 4)) := (hv.all _ (by rw [symCells_length, allSyms_length]; omega)).trans (allSyms_at k hlt).1
      have c1 : wr.cell? ⟨g, k * 2 + 1, none⟩ = some (.bool (decide (4 ≤ k))) := (hv.all _ (by rw [symCells_length, allSyms_length]; omega)).trans (allSyms_at k hlt).2
      have t0 : 0 ≤ ((k : Int) % 4) := by omega
      have t3 : ((k : Int) % 4) ≤ 3 := by omega
      cases hw : win kind 0 3
      · have hs := hv.skip (by rw [hw]; rfl)
        go_wp2_with (go_at_call 45; refine (l1In_any _ _ _ _).mono ?_; rintro e w' ⟨rfl, rfl⟩)
        go_roundw
        case rel => exact ⟨k + 1, by omega, by go_num, hs.below ((Below.refl _ _).alloc (Nat.le_refl _) _)⟩
        case measure => simp [intOf]; omega
      · cases ho : ofKind kind ((k : Int) % 4) (decide (4 ≤ k))
        · have hs := hv.skip (by rw [hw, ho]; rfl)
          go_wp2_with (first | (go_at_call 45; refine (l1In_any _ _ _ _).mono ?_; rintro e w' ⟨rfl, rfl⟩) | (go_at_call 49; refine (l1Of_any _ _ _ _ t0 t3).mono ?_; rintro e w' ⟨rfl, rfl⟩))
          go_roundw
          case rel => exact ⟨k + 1, by omega, by go_num, hs.below (((Below.refl _ _).alloc (Nat.le_refl _) _).alloc (by simp) _)⟩
          case measure => simp [intOf]; omega
        · have hc : (win kind 0 3 && ofKind kind ((k : Int) % 4) (decide (4 ≤ k))) = true := by rw [hw, ho]; rfl
          have HC := hide hc
          clear hc
          have hle := someSyms_le kind k
          have hv2 := hv.below ((((Below.refl wr.heap.size wr).alloc (Nat.le_refl _) (.cells #[.int .i64 ((k : Int) % 4), .bool (decide (4 ≤ k))] 26)).alloc (by simp) (.cells #[.int .i64 ((k : Int) % 4), .bool (decide (4 ≤ k))] 26)).alloc (by simp; omega) (.cells #[.int .i64 ((k : Int) % 4), .bool (decide (4 ≤ k))] 26))
          go_wp2_with (first | (go_at_call 45; refine (l1In_any _ _ _ _).mono ?_; rintro e w' ⟨rfl, rfl⟩) | (go_at_call 49; refine (l1Of_any _ _ _ _ t0 t3).mono ?_; rintro e w' ⟨rfl, rfl⟩) | (at_builtin; refine wpList_append_lies _ rfl _ _ 37 rfl w.heap.size 26 i0 (.agg #[.int .i64 0, .bool false]) 2 16 Try.underlying37 hi hz0 hz1 hz2 rfl (by decide) _ _ _ rfl hv2.own ⟨wr.heap.size + 1 + 1, 0, none⟩ 1 1 [.int .i64 ((k : Int) % 4), .bool (decide (4 ≤ k))] rfl rfl ?c1 ?c2 (by omega) ?c3 ?c4 ?c5 _ rfl ?_))
          case c1 =>
            intro j u hj
            match j, hj with
            | 0, hj => simp at hj; subst hj; simp only [Addr.add]; go_simp
            | 1, hj => simp at hj; subst hj; simp only [Addr.add]; go_simp
          case c2 => intro u hu; simp at hu; rcases hu with rfl | rfl <;> rfl
          case c3 => unfold maxLen; omega
          case c4 => omega
          case c5 => have := hv2.bel.size; exact this
          intro g' cap' w2 hown' hgrow hat _
          have hn := hv2.add HC.out rfl hown' hgrow (by simpa using hat)
          clear hown' hgrow hat hv2
          go_wp2
          go_roundw
          case rel => exact ⟨k + 1, by omega, by go_num, hn⟩
          case measure => simp [intOf]; omega
    · obtain rfl : k = 8 := by omega
      go_wp2
      go_ret
      have hown := hv.own
      rw [HA.out] at hown
      exact ⟨_, rfl, hown, hv.bel⟩

end Go.Proofs.Ytnpgdijafmkmkaa
