/- What the program's ParseColour computes. For all strings and worlds. -/
import Derived.Test.YtenpbnojabhlkaaParC
namespace Go.Proofs.Ytenpbnojabhlkaa
open Go.RowKit
open Fl

theorem Try.infoF32 : (Try.prog.info? 22).map (fun i => (i.zero, i.size, i.bytes)) = some (some (.float .f32 0), 1, 4) := by kernel_rfl

/-- A loop that appends, beside a row that stays as it is and may be written. -/
structure AppF (w : World) (E : TypeId) (sz : Nat) (fb : Nat) (L : List Value) (v : Value) (n : Nat) (xs : List Value) (wr : World) : Prop where
  inv : AppInv w E sz fb L v n xs wr
  fr : ∀ j, wr.frozen? ⟨fb, j, none⟩ = false

theorem AppF.below {w : World} {E : TypeId} {sz fb : Nat} {L : List Value} {v : Value} {n : Nat} {xs : List Value} {wr W : World} (h : AppF w E sz fb L v n xs wr) (hb : Below wr.heap.size wr W) : AppF w E sz fb L v n xs W :=
  ⟨h.inv.below hb, fun j => (hb.frozen (p := ⟨fb, j, none⟩) h.inv.glt).trans (h.fr j)⟩

theorem AppF.add {w : World} {E : TypeId} {sz fb : Nat} {L : List Value} {v : Value} {n m : Nat} {xs ys : List Value} {wr W : World} {g' cap : Nat} (h : AppF w E sz fb L v n xs wr)
    (hown : W.ownsRow w.heap.size E sz (.slice (some ⟨g', 0, none⟩) m cap) m ys) (hgrow : wr.grownBy W v.ownBlock) (hat : v.ownBlock = some g' ∨ g' = wr.heap.size) : AppF w E sz fb L (.slice (some ⟨g', 0, none⟩) m cap) m ys W :=
  ⟨h.inv.add hown hgrow hat, fun j => (World.frozen?_of_block (hgrow.block fb h.inv.glt (fun q => h.inv.ne q.symm))).trans (h.fr j)⟩

/-- The first k numbers' cells. -/
def flV (l : List Nat) (k : Nat) : List Value := (l.take k).map fun x => .float .f32 x

set_option maxHeartbeats 2000000 in
theorem par_three (s : ByteArray) (l : List UInt8) (w : World) (hs : s.size = 3) (nf : Nat → Int) (X Y Z : Nat)
    (HK : Hid (∀ k : Nat, k < 3 → ∃ (bt : Int) (W : Nat), (∀ w, (Instr.index 9 (.string s) (.int .i64 (k : Int))).run Try.prog w = .ok (.int .u8 bt) w) ∧ (∀ w, Calls Try.prog 42 #[.string hexS, .int .u8 bt] w fun e w' => e = .returned (.int .i64 (nf k)) ∧ w = w') ∧ (0 ≤ nf k → ∀ t w, (binOp .quo t (.float .f32 (floatOfInt .f32 (nf k))) (.float .f32 1097859072)).run Try.prog w = .ok (.float .f32 W) w) ∧ flV [X, Y, Z] (k + 1) = flV [X, Y, Z] k ++ [.float .f32 W]))
    (HN : Hid (∀ k, k < 3 → nf k < 0 → parR l = (false, 0, 0, 0))) (HY : Hid ((∀ k, k < 3 → 0 ≤ nf k) → parR l = (true, X, Y, Z))) : Calls Try.prog 20 #[.string s] w (RetPar l w) := by
  obtain ⟨i0, hi, hz0, hz1, hz2⟩ := infoPartsC Try.infoF32
  go_enter Try.func20, Try.ntmps20
  go_wp2_with fail
  have hinv : AppF w 22 1 w.heap.size [.float .f32 0, .float .f32 0, .float .f32 0] (.slice (some ⟨w.heap.size + 1, 0, none⟩) 0 0) 0 (flV [X, Y, Z] 0) ((w.alloc (.cells #[.float .f32 0, .float .f32 0, .float .f32 0] 26)).alloc (.cells #[] 22)) := by
    refine ⟨⟨?_, ?_, ?_, by simp; omega, ((Below.refl _ _).alloc (Nat.le_refl _) _).alloc (by simp) _⟩, fun j => by go_simp⟩
    · have := World.ownsRow_lit (base := w.heap.size) (size := 1) (e := 22) (w.alloc (.cells #[.float .f32 0, .float .f32 0, .float .f32 0] 26)) #[] 0 (by simp) (by unfold maxLen; omega) rfl
      simpa [flV] using this
    · intro j hj
      match j, hj with
      | 0, _ => go_simp
      | 1, _ => go_simp
      | 2, _ => go_simp
    · simp [Value.ownBlock]
  go_loopw [4, 12] (fun v i wr => ∃ k : Nat, k ≤ 3 ∧ i = .int .i64 k ∧ Hid (∀ j, j < k → 0 ≤ nf j) ∧ AppF w 22 1 w.heap.size [.float .f32 0, .float .f32 0, .float .f32 0] v k (flV [X, Y, Z] k) wr) (fun _ i _ => 3 - (intOf i).toNat)
  case atStart => exact ⟨0, Nat.zero_le _, rfl, fun j hj => by omega, hinv⟩
  case round =>
    clear hinv
    obtain ⟨k, hk, rfl, hno, hv⟩ := hrel
    have c0 : wr.cell? ⟨w.heap.size, 0, none⟩ = some (.float .f32 0) := hv.inv.all 0 (by simp)
    have c1 : wr.cell? ⟨w.heap.size, 1, none⟩ = some (.float .f32 0) := hv.inv.all 1 (by simp)
    have c2 : wr.cell? ⟨w.heap.size, 2, none⟩ = some (.float .f32 0) := hv.inv.all 2 (by simp)
    have cf := hv.fr
    have bel := hv.inv.bel
    have kr : w.heap.size ≤ w.heap.size := Nat.le_refl _
    by_cases hlt : k < 3
    · obtain ⟨bt, W, hix, hcl, hq, hd⟩ := HK.out k hlt
      have HC := hide hcl
      have HNK := hide (HN.out k hlt)
      have HD := hide hd
      clear hcl hd
      by_cases hneg : nf k < 0
      · clear hq hno
        have HP := hide (HNK.out hneg)
        clear HNK HD
        generalize nf k = n at HC hneg
        go_wp2_with (go_at_call 42; refine (HC.out _).mono ?_; rintro e w' ⟨rfl, rfl⟩)
        exact bodyPost_ret (v := .tuple #[.agg #[.float .f32 0, .float .f32 0, .float .f32 0], .bool false]) (by simp [results, Try.results20, go_sem, c0, c1, c2]) rfl (retPar_of HP.out rfl (by repeat (first | exact Below.refl _ _ | assumption | refine Below.drew ?_ | refine Below.setCell ?_ (by first | (dsimp only; omega) | (simp; omega) | simp) _ | refine Below.alloc ?_ (by first | omega | (simp; omega) | simp) _)))
      · have hq := hq (by omega)
        have hno2 : Hid (∀ j, j < k + 1 → 0 ≤ nf j) := fun j hj => by
          by_cases e : j = k
          · subst e; omega
          · exact hno.out j (by omega)
        clear hno HNK
        generalize nf k = n at HC hneg hq
        have hv2 := hv.below ((Below.refl wr.heap.size wr).alloc (Nat.le_refl _) (.cells #[.float .f32 W] 22))
        go_wp2_with (first | (go_at_call 42; refine (HC.out _).mono ?_; rintro e w' ⟨rfl, rfl⟩) | (at_builtin; refine wpList_append_lies _ rfl _ _ 51 rfl w.heap.size 22 i0 (.float .f32 0) 1 4 Try.underlying51 hi hz0 hz1 hz2 rfl (by decide) _ _ _ rfl hv2.inv.own ⟨wr.heap.size, 0, none⟩ 1 1 [.float .f32 W] rfl rfl ?c1 ?c2 (by omega) ?c3 ?c4 ?c5 _ rfl ?_))
        case c1 =>
          intro j u hj
          match j, hj with
          | 0, hj => simp at hj; subst hj; simp only [Addr.add]; go_simp
        case c2 => intro u hu; simp at hu; rcases hu with rfl; rfl
        case c3 => unfold maxLen; omega
        case c4 => omega
        case c5 => have := hv2.inv.bel.size; exact this
        intro g' cap' w2 hown' hgrow hat _
        have hn := hv2.add hown' hgrow (by simpa using hat)
        rw [← HD.out] at hn
        clear hown' hgrow hat hv2 hv hq hix c0 c1 c2 cf bel
        go_wp2_with fail
        go_roundw
        case rel => exact ⟨k + 1, by omega, by go_num, hno2, hn⟩
        case measure => simp [intOf]; omega
    · obtain rfl : k = 3 := by omega
      obtain ⟨gb, cap, rfl, hg1, hg2⟩ := hv.inv.own.form (by decide)
      have d0 : wr.cell? ⟨gb, 0, none⟩ = some (.float .f32 X) := hv.inv.own.cellAt 0 (by omega)
      have d1 : wr.cell? ⟨gb, 1, none⟩ = some (.float .f32 Y) := hv.inv.own.cellAt 1 (by omega)
      have d2 : wr.cell? ⟨gb, 2, none⟩ = some (.float .f32 Z) := hv.inv.own.cellAt 2 (by omega)
      have HP := hide (HY.out hno.out)
      clear hv hno
      go_wp2_with fail
      refine wp_region_still_tail 10 (by kernel_rfl) (by kernel_rfl) ?_
      simp only [List.take_succ_cons, List.take_zero, List.drop_succ_cons, List.drop_zero]
      repeat still_step
      refine wpStill_nil ?_
      change wpList _ _ _ _ _ wr.drew
      go_wp2_with fail
      exact bodyPost_ret (v := .tuple #[.agg #[.float .f32 X, .float .f32 Y, .float .f32 Z], .bool true]) (by simp [results, Try.results20, go_sem, c0, c1, c2]) rfl (retPar_of HP.out rfl (by repeat (first | exact Below.refl _ _ | assumption | refine Below.drew ?_ | refine Below.setCell ?_ (by first | (dsimp only; omega) | (simp; omega) | simp) _ | refine Below.alloc ?_ (by first | omega | (simp; omega) | simp) _)))

end Go.Proofs.Ytenpbnojabhlkaa
