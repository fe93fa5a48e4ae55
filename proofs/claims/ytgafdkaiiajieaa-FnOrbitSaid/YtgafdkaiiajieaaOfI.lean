/- What the program's SymsOf computes: the symmetries of mirrors of a kind, in order, in new memory. For all kinds and worlds. -/
import Derived.Test.YtgafdkaiiajieaaAll
import Derived.Test.YtgafdkaiiajieaaSym
import Derived.Deep.AppendLies
namespace Go.Proofs.Ytgafdkaiiajieaa
open Go.RowKit

set_option maxHeartbeats 400000 in
theorem isKind_any (kind : Int) (w : World) :
    Calls Try.prog 43 #[.int .i64 kind] w fun e w' => e = .returned (.bool (win kind 0 3)) ∧ w = w' := by
  go_enter Try.func43, Try.ntmps43
  go_wp2_with (go_at_call 74; refine (within_any _ _ _ _).mono ?_; rintro e w' ⟨rfl, rfl⟩)
  go_ret
  exact ⟨rfl, rfl⟩

set_option maxHeartbeats 400000 in
theorem symsOf_no (kind : Int) (w : World) (hw : win kind 0 3 = false) : Calls Try.prog 16 #[.int .i64 kind] w (RetSyms w (symsOf kind)) := by
  have HA : Hid (symsOf kind = []) := by unfold symsOf; rw [hw]; rfl
  go_enter Try.func16, Try.ntmps16
  go_wp2_with (go_at_call 43; refine (isKind_any _ _).mono ?_; rintro e w' ⟨rfl, rfl⟩)
  go_ret
  rw [HA.out]
  exact ⟨_, rfl, World.ownsRow_nil _ _ _ _, Below.refl _ _⟩

set_option maxRecDepth 100000 in
set_option maxHeartbeats 4000000 in
theorem symsOf_yes (kind : Int) (w : World) (hw : win kind 0 3 = true) : Calls Try.prog 16 #[.int .i64 kind] w (RetSyms w (symsOf kind)) := by
  obtain ⟨i0, hi, hz0, hz1, hz2⟩ := infoParts Try.infoSym
  have HA := hide (someSyms_all kind)
  go_enter Try.func16, Try.ntmps16
  go_wp2_with (go_at_call 43; refine (isKind_any _ _).mono ?_; rintro e w' ⟨rfl, rfl⟩)
  have hinv : OfInv w (w.heap.size + 1) [.bool false, .bool true] kind (.slice (some ⟨w.heap.size, 0, none⟩) 0 0) 0 ((w.alloc (.cells #[] 28)).alloc (.cells #[.bool false, .bool true] 4)) := by
    refine ⟨ownsBelow (World.ownsRow_lit w #[] 0 (Nat.le_refl _) (by unfold maxLen; omega) rfl) ((Below.refl _ _).alloc (Nat.le_refl _) _), ?_, ?_, by simp, ((Below.refl _ _).alloc (Nat.le_refl _) _).alloc (by simp) _⟩
    · intro j hj
      match j, hj with
      | 0, _ => go_simp
      | 1, _ => go_simp
    · simp [Value.ownBlock]
  go_loopw [3, 13] (fun v i wr => ∃ a : Nat, a ≤ 2 ∧ i = .int .i64 a ∧ OfInv w (w.heap.size + 1) [.bool false, .bool true] kind v (4 * a) wr) (fun _ i _ => 2 - (intOf i).toNat)
  case atStart => exact ⟨0, Nat.zero_le _, rfl, hinv⟩
  case round =>
    clear hinv
    obtain ⟨a, ha, rfl, hv⟩ := hrel
    by_cases hlt : a < 2
    · have hc : wr.cell? ⟨w.heap.size + 1, a, none⟩ = some (.bool (decide (1 ≤ a))) := by
        refine (hv.all a (by simp; omega)).trans ?_
        match a, hlt with
        | 0, _ => rfl
        | 1, _ => rfl
      obtain ⟨wo, rfl⟩ : ∃ wo : World, wo = wr := ⟨_, rfl⟩
      go_wp2_with fail
      go_loopw [3, 17] (fun v j wr => ∃ b : Nat, b ≤ 4 ∧ j = .int .i64 b ∧ OfInv w (w.heap.size + 1) [.bool false, .bool true] kind v (4 * a + b) wr) (fun _ j _ => 4 - (intOf j).toNat)
      case atStart => exact ⟨0, Nat.zero_le _, rfl, hv⟩
      case round =>
        clear hv hc
        obtain ⟨b, hb, rfl, hv⟩ := hrel
        by_cases hlb : b < 4
        · have hk : kind = 0 ∨ kind = 1 ∨ kind = 2 ∨ kind = 3 := by
            have := win_iff.1 hw
            omega
          have hA : a = 0 ∨ a = 1 := by omega
          have hB : b = 0 ∨ b = 1 ∨ b = 2 ∨ b = 3 := by omega
          have hle := someSyms_le kind (4 * a + b)
          cases ho : ofKind kind (((4 * a + b : Nat) : Int) % 4) (decide (4 ≤ 4 * a + b))
          · have hs := hv.skip (by rw [ho]; simp)
            clear hv hle
            rcases hk with rfl | rfl | rfl | rfl <;> rcases hA with rfl | rfl <;> rcases hB with rfl | rfl | rfl | rfl <;> first | exact absurd ho (by decide) | skip
            all_goals
              clear ho hw
              go_wp2
              go_roundw
              case rel => exact ⟨_, by decide, rfl, hs⟩
              case measure => simp [intOf]
          · rcases hA with rfl | rfl <;> rcases hB with rfl | rfl | rfl | rfl
            · rcases hk with rfl | rfl | rfl | rfl <;> first | exact absurd ho (by decide) | skip
              all_goals
                have HO := hide ho
                clear ho hw
                go_wp2_with (at_builtin; refine wpList_append_lies _ rfl _ _ 33 rfl w.heap.size 28 i0 (.agg #[.int .i64 0, .bool false]) 2 16 Try.underlying33 hi hz0 hz1 hz2 rfl (by decide) _ _ _ rfl (hv.below ((Below.refl _ _).alloc (Nat.le_refl _) _)).own ⟨wr.heap.size, 0, none⟩ 1 1 [.int .i64 0, .bool false] rfl rfl ?c1 ?c2 (by omega) ?c3 ?c4 ?c5 _ rfl ?_)
                case c1 =>
                  intro j u hj
                  match j, hj with
                  | 0, hj => simp at hj; subst hj; simp only [Addr.add]; go_simp
                  | 1, hj => simp at hj; subst hj; simp only [Addr.add]; go_simp
                case c2 => intro u hu; simp at hu; rcases hu with rfl | rfl <;> rfl
                case c3 => unfold maxLen; omega
                case c4 => omega
                case c5 => have := hv.bel.size; simp; omega
                intro g' cap' w2 hown' hgrow hat _
                have hn := (hv.below ((Below.refl _ _).alloc (Nat.le_refl _) _)).add (by rw [HO.out]; rfl) rfl hown' hgrow (by simpa using hat)
                clear hown' hgrow hat hv HO
                go_wp2
                go_roundw
                case rel => first | (refine ⟨0 + 1, ?_, rfl, hn⟩; decide) | ((repeat apply Exists.intro); refine ⟨⟨0 + 1, ?_, rfl, hn⟩, rfl⟩; decide)
                case measure => simp [intOf]
            · rcases hk with rfl | rfl | rfl | rfl <;> first | exact absurd ho (by decide) | skip
              all_goals
                have HO := hide ho
                clear ho hw
                go_wp2_with (at_builtin; refine wpList_append_lies _ rfl _ _ 33 rfl w.heap.size 28 i0 (.agg #[.int .i64 0, .bool false]) 2 16 Try.underlying33 hi hz0 hz1 hz2 rfl (by decide) _ _ _ rfl (hv.below ((Below.refl _ _).alloc (Nat.le_refl _) _)).own ⟨wr.heap.size, 0, none⟩ 1 1 [.int .i64 1, .bool false] rfl rfl ?c1 ?c2 (by omega) ?c3 ?c4 ?c5 _ rfl ?_)
                case c1 =>
                  intro j u hj
                  match j, hj with
                  | 0, hj => simp at hj; subst hj; simp only [Addr.add]; go_simp
                  | 1, hj => simp at hj; subst hj; simp only [Addr.add]; go_simp
                case c2 => intro u hu; simp at hu; rcases hu with rfl | rfl <;> rfl
                case c3 => unfold maxLen; omega
                case c4 => omega
                case c5 => have := hv.bel.size; simp; omega
                intro g' cap' w2 hown' hgrow hat _
                have hn := (hv.below ((Below.refl _ _).alloc (Nat.le_refl _) _)).add (by rw [HO.out]; rfl) rfl hown' hgrow (by simpa using hat)
                clear hown' hgrow hat hv HO
                go_wp2
                go_roundw
                case rel => first | (refine ⟨1 + 1, ?_, rfl, hn⟩; decide) | ((repeat apply Exists.intro); refine ⟨⟨1 + 1, ?_, rfl, hn⟩, rfl⟩; decide)
                case measure => simp [intOf]
            · rcases hk with rfl | rfl | rfl | rfl <;> first | exact absurd ho (by decide) | skip
              all_goals
                have HO := hide ho
                clear ho hw
                go_wp2_with (at_builtin; refine wpList_append_lies _ rfl _ _ 33 rfl w.heap.size 28 i0 (.agg #[.int .i64 0, .bool false]) 2 16 Try.underlying33 hi hz0 hz1 hz2 rfl (by decide) _ _ _ rfl (hv.below ((Below.refl _ _).alloc (Nat.le_refl _) _)).own ⟨wr.heap.size, 0, none⟩ 1 1 [.int .i64 2, .bool false] rfl rfl ?c1 ?c2 (by omega) ?c3 ?c4 ?c5 _ rfl ?_)
                case c1 =>
                  intro j u hj
                  match j, hj with
                  | 0, hj => simp at hj; subst hj; simp only [Addr.add]; go_simp
                  | 1, hj => simp at hj; subst hj; simp only [Addr.add]; go_simp
                case c2 => intro u hu; simp at hu; rcases hu with rfl | rfl <;> rfl
                case c3 => unfold maxLen; omega
                case c4 => omega
                case c5 => have := hv.bel.size; simp; omega
                intro g' cap' w2 hown' hgrow hat _
                have hn := (hv.below ((Below.refl _ _).alloc (Nat.le_refl _) _)).add (by rw [HO.out]; rfl) rfl hown' hgrow (by simpa using hat)
                clear hown' hgrow hat hv HO
                go_wp2
                go_roundw
                case rel => first | (refine ⟨2 + 1, ?_, rfl, hn⟩; decide) | ((repeat apply Exists.intro); refine ⟨⟨2 + 1, ?_, rfl, hn⟩, rfl⟩; decide)
                case measure => simp [intOf]
            · rcases hk with rfl | rfl | rfl | rfl <;> first | exact absurd ho (by decide) | skip
              all_goals
                have HO := hide ho
                clear ho hw
                go_wp2_with (at_builtin; refine wpList_append_lies _ rfl _ _ 33 rfl w.heap.size 28 i0 (.agg #[.int .i64 0, .bool false]) 2 16 Try.underlying33 hi hz0 hz1 hz2 rfl (by decide) _ _ _ rfl (hv.below ((Below.refl _ _).alloc (Nat.le_refl _) _)).own ⟨wr.heap.size, 0, none⟩ 1 1 [.int .i64 3, .bool false] rfl rfl ?c1 ?c2 (by omega) ?c3 ?c4 ?c5 _ rfl ?_)
                case c1 =>
                  intro j u hj
                  match j, hj with
                  | 0, hj => simp at hj; subst hj; simp only [Addr.add]; go_simp
                  | 1, hj => simp at hj; subst hj; simp only [Addr.add]; go_simp
                case c2 => intro u hu; simp at hu; rcases hu with rfl | rfl <;> rfl
                case c3 => unfold maxLen; omega
                case c4 => omega
                case c5 => have := hv.bel.size; simp; omega
                intro g' cap' w2 hown' hgrow hat _
                have hn := (hv.below ((Below.refl _ _).alloc (Nat.le_refl _) _)).add (by rw [HO.out]; rfl) rfl hown' hgrow (by simpa using hat)
                clear hown' hgrow hat hv HO
                go_wp2
                go_roundw
                case rel => first | (refine ⟨3 + 1, ?_, rfl, hn⟩; decide) | ((repeat apply Exists.intro); refine ⟨⟨3 + 1, ?_, rfl, hn⟩, rfl⟩; decide)
                case measure => simp [intOf]
            · rcases hk with rfl | rfl | rfl | rfl <;> first | exact absurd ho (by decide) | skip
              all_goals
                have HO := hide ho
                clear ho hw
                go_wp2_with (at_builtin; refine wpList_append_lies _ rfl _ _ 33 rfl w.heap.size 28 i0 (.agg #[.int .i64 0, .bool false]) 2 16 Try.underlying33 hi hz0 hz1 hz2 rfl (by decide) _ _ _ rfl (hv.below ((Below.refl _ _).alloc (Nat.le_refl _) _)).own ⟨wr.heap.size, 0, none⟩ 1 1 [.int .i64 0, .bool true] rfl rfl ?c1 ?c2 (by omega) ?c3 ?c4 ?c5 _ rfl ?_)
                case c1 =>
                  intro j u hj
                  match j, hj with
                  | 0, hj => simp at hj; subst hj; simp only [Addr.add]; go_simp
                  | 1, hj => simp at hj; subst hj; simp only [Addr.add]; go_simp
                case c2 => intro u hu; simp at hu; rcases hu with rfl | rfl <;> rfl
                case c3 => unfold maxLen; omega
                case c4 => omega
                case c5 => have := hv.bel.size; simp; omega
                intro g' cap' w2 hown' hgrow hat _
                have hn := (hv.below ((Below.refl _ _).alloc (Nat.le_refl _) _)).add (by rw [HO.out]; rfl) rfl hown' hgrow (by simpa using hat)
                clear hown' hgrow hat hv HO
                go_wp2
                go_roundw
                case rel => first | (refine ⟨0 + 1, ?_, rfl, hn⟩; decide) | ((repeat apply Exists.intro); refine ⟨⟨0 + 1, ?_, rfl, hn⟩, rfl⟩; decide)
                case measure => simp [intOf]
            · rcases hk with rfl | rfl | rfl | rfl <;> first | exact absurd ho (by decide) | skip
              all_goals
                have HO := hide ho
                clear ho hw
                go_wp2_with (at_builtin; refine wpList_append_lies _ rfl _ _ 33 rfl w.heap.size 28 i0 (.agg #[.int .i64 0, .bool false]) 2 16 Try.underlying33 hi hz0 hz1 hz2 rfl (by decide) _ _ _ rfl (hv.below ((Below.refl _ _).alloc (Nat.le_refl _) _)).own ⟨wr.heap.size, 0, none⟩ 1 1 [.int .i64 1, .bool true] rfl rfl ?c1 ?c2 (by omega) ?c3 ?c4 ?c5 _ rfl ?_)
                case c1 =>
                  intro j u hj
                  match j, hj with
                  | 0, hj => simp at hj; subst hj; simp only [Addr.add]; go_simp
                  | 1, hj => simp at hj; subst hj; simp only [Addr.add]; go_simp
                case c2 => intro u hu; simp at hu; rcases hu with rfl | rfl <;> rfl
                case c3 => unfold maxLen; omega
                case c4 => omega
                case c5 => have := hv.bel.size; simp; omega
                intro g' cap' w2 hown' hgrow hat _
                have hn := (hv.below ((Below.refl _ _).alloc (Nat.le_refl _) _)).add (by rw [HO.out]; rfl) rfl hown' hgrow (by simpa using hat)
                clear hown' hgrow hat hv HO
                go_wp2
                go_roundw
                case rel => first | (refine ⟨1 + 1, ?_, rfl, hn⟩; decide) | ((repeat apply Exists.intro); refine ⟨⟨1 + 1, ?_, rfl, hn⟩, rfl⟩; decide)
                case measure => simp [intOf]
            · rcases hk with rfl | rfl | rfl | rfl <;> first | exact absurd ho (by decide) | skip
              all_goals
                have HO := hide ho
                clear ho hw
                go_wp2_with (at_builtin; refine wpList_append_lies _ rfl _ _ 33 rfl w.heap.size 28 i0 (.agg #[.int .i64 0, .bool false]) 2 16 Try.underlying33 hi hz0 hz1 hz2 rfl (by decide) _ _ _ rfl (hv.below ((Below.refl _ _).alloc (Nat.le_refl _) _)).own ⟨wr.heap.size, 0, none⟩ 1 1 [.int .i64 2, .bool true] rfl rfl ?c1 ?c2 (by omega) ?c3 ?c4 ?c5 _ rfl ?_)
                case c1 =>
                  intro j u hj
                  match j, hj with
                  | 0, hj => simp at hj; subst hj; simp only [Addr.add]; go_simp
                  | 1, hj => simp at hj; subst hj; simp only [Addr.add]; go_simp
                case c2 => intro u hu; simp at hu; rcases hu with rfl | rfl <;> rfl
                case c3 => unfold maxLen; omega
                case c4 => omega
                case c5 => have := hv.bel.size; simp; omega
                intro g' cap' w2 hown' hgrow hat _
                have hn := (hv.below ((Below.refl _ _).alloc (Nat.le_refl _) _)).add (by rw [HO.out]; rfl) rfl hown' hgrow (by simpa using hat)
                clear hown' hgrow hat hv HO
                go_wp2
                go_roundw
                case rel => first | (refine ⟨2 + 1, ?_, rfl, hn⟩; decide) | ((repeat apply Exists.intro); refine ⟨⟨2 + 1, ?_, rfl, hn⟩, rfl⟩; decide)
                case measure => simp [intOf]
            · rcases hk with rfl | rfl | rfl | rfl <;> first | exact absurd ho (by decide) | skip
              all_goals
                have HO := hide ho
                clear ho hw
                go_wp2_with (at_builtin; refine wpList_append_lies _ rfl _ _ 33 rfl w.heap.size 28 i0 (.agg #[.int .i64 0, .bool false]) 2 16 Try.underlying33 hi hz0 hz1 hz2 rfl (by decide) _ _ _ rfl (hv.below ((Below.refl _ _).alloc (Nat.le_refl _) _)).own ⟨wr.heap.size, 0, none⟩ 1 1 [.int .i64 3, .bool true] rfl rfl ?c1 ?c2 (by omega) ?c3 ?c4 ?c5 _ rfl ?_)
                case c1 =>
                  intro j u hj
                  match j, hj with
                  | 0, hj => simp at hj; subst hj; simp only [Addr.add]; go_simp
                  | 1, hj => simp at hj; subst hj; simp only [Addr.add]; go_simp
                case c2 => intro u hu; simp at hu; rcases hu with rfl | rfl <;> rfl
                case c3 => unfold maxLen; omega
                case c4 => omega
                case c5 => have := hv.bel.size; simp; omega
                intro g' cap' w2 hown' hgrow hat _
                have hn := (hv.below ((Below.refl _ _).alloc (Nat.le_refl _) _)).add (by rw [HO.out]; rfl) rfl hown' hgrow (by simpa using hat)
                clear hown' hgrow hat hv HO
                go_wp2
                go_roundw
                case rel => first | (refine ⟨3 + 1, ?_, rfl, hn⟩; decide) | ((repeat apply Exists.intro); refine ⟨⟨3 + 1, ?_, rfl, hn⟩, rfl⟩; decide)
                case measure => simp [intOf]
        · obtain rfl : b = 4 := by omega
          go_wp2
          go_roundw
          case rel => exact ⟨a + 1, by omega, by go_num, hv⟩
          case measure => simp [intOf]; omega
    · obtain rfl : a = 2 := by omega
      go_wp2
      go_ret
      have hown := hv.own
      rw [show 4 * 2 = 8 from rfl, HA.out] at hown
      exact ⟨_, rfl, hown, hv.bel⟩

/-- The program's SymsOf, for every kind. -/
theorem symsOf_any (kind : Int) (w : World) : Calls Try.prog 16 #[.int .i64 kind] w (RetSyms w (symsOf kind)) := by
  cases hw : win kind 0 3
  · exact symsOf_no kind w hw
  · exact symsOf_yes kind w hw

theorem symsOf_le (kind : Int) : (symsOf kind).length ≤ 8 := by
  rw [← someSyms_all]; exact someSyms_le kind 8

end Go.Proofs.Ytgafdkaiiajieaa
