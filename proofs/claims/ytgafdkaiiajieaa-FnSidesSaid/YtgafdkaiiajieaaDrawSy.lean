/- What the reference draws of a code as three symmetries. Condition: the code is a slice of bytes that can be read. -/
import Derived.Test.YtgafdkaiiajieaaAll
import Derived.Test.YtgafdkaiiajieaaSym
import Derived.Test.YtgafdkaiiajieaaDrawC
import Derived.Deep.RegionHeld3
import Derived.Deep.AppendLies
namespace Go.Proofs.Ytgafdkaiiajieaa
open Go.RowKit

/-- Three symmetries. -/
def RetSyms3 (w : World) (e : Ending) (w' : World) : Prop :=
  ∃ (t1 t2 t3 : Int) (f1 f2 f3 : Bool), e = .returned (.tuple #[.agg #[.int .i64 t1, .bool f1], .agg #[.int .i64 t2, .bool f2], .agg #[.int .i64 t3, .bool f3]]) ∧ win t1 0 3 = true ∧ win t2 0 3 = true ∧ win t3 0 3 = true ∧ Below w.heap.size w w'

/-- The cells of the eight symmetries. -/
def Eight (w : World) (g : Nat) : Prop := ∀ k : Nat, k < 8 → w.cell? ⟨g, k * 2, none⟩ = some (.int .i64 ((k : Int) % 4)) ∧ w.cell? ⟨g, k * 2 + 1, none⟩ = some (.bool (decide (4 ≤ k)))

set_option maxHeartbeats 4000000 in
theorem drawSyms_any (w : World) (a : Option Addr) (len cap : Nat) (hc : IsCode w a len) :
    Calls Try.prog 26 #[.slice a len cap] w (RetSyms3 w) := by
  have HC := hide hc
  clear hc
  go_enter Try.func26, Try.ntmps26
  go_wp2_with fail
  have bel : Below w.heap.size w (((w.alloc (.cells #[.int .i64 0, .bool false] 28)).alloc (.cells #[.int .i64 0, .bool false] 28)).alloc (.cells #[.int .i64 0, .bool false] 28)) := (((Below.refl _ _).alloc (Nat.le_refl _) _).alloc (by simp) _).alloc (by simp; omega) _
  have r0 : (((w.alloc (.cells #[.int .i64 0, .bool false] 28)).alloc (.cells #[.int .i64 0, .bool false] 28)).alloc (.cells #[.int .i64 0, .bool false] 28)).cell? ⟨w.heap.size, 0, none⟩ = some (.int .i64 0) := by go_simp
  have r1 : (((w.alloc (.cells #[.int .i64 0, .bool false] 28)).alloc (.cells #[.int .i64 0, .bool false] 28)).alloc (.cells #[.int .i64 0, .bool false] 28)).cell? ⟨w.heap.size, 1, none⟩ = some (.bool false) := by go_simp
  have s0 : (((w.alloc (.cells #[.int .i64 0, .bool false] 28)).alloc (.cells #[.int .i64 0, .bool false] 28)).alloc (.cells #[.int .i64 0, .bool false] 28)).cell? ⟨w.heap.size + 1, 0, none⟩ = some (.int .i64 0) := by go_simp
  have s1 : (((w.alloc (.cells #[.int .i64 0, .bool false] 28)).alloc (.cells #[.int .i64 0, .bool false] 28)).alloc (.cells #[.int .i64 0, .bool false] 28)).cell? ⟨w.heap.size + 1, 1, none⟩ = some (.bool false) := by go_simp
  have u0 : (((w.alloc (.cells #[.int .i64 0, .bool false] 28)).alloc (.cells #[.int .i64 0, .bool false] 28)).alloc (.cells #[.int .i64 0, .bool false] 28)).cell? ⟨w.heap.size + 1 + 1, 0, none⟩ = some (.int .i64 0) := by go_simp
  have u1 : (((w.alloc (.cells #[.int .i64 0, .bool false] 28)).alloc (.cells #[.int .i64 0, .bool false] 28)).alloc (.cells #[.int .i64 0, .bool false] 28)).cell? ⟨w.heap.size + 1 + 1, 1, none⟩ = some (.bool false) := by go_simp
  have rf : ∀ j, (((w.alloc (.cells #[.int .i64 0, .bool false] 28)).alloc (.cells #[.int .i64 0, .bool false] 28)).alloc (.cells #[.int .i64 0, .bool false] 28)).frozen? ⟨w.heap.size, j, none⟩ = false := fun j => by go_simp
  have sf : ∀ j, (((w.alloc (.cells #[.int .i64 0, .bool false] 28)).alloc (.cells #[.int .i64 0, .bool false] 28)).alloc (.cells #[.int .i64 0, .bool false] 28)).frozen? ⟨w.heap.size + 1, j, none⟩ = false := fun j => by go_simp
  have uf : ∀ j, (((w.alloc (.cells #[.int .i64 0, .bool false] 28)).alloc (.cells #[.int .i64 0, .bool false] 28)).alloc (.cells #[.int .i64 0, .bool false] 28)).frozen? ⟨w.heap.size + 1 + 1, j, none⟩ = false := fun j => by go_simp
  have z1 : w.heap.size + 1 + 1 < (((w.alloc (.cells #[.int .i64 0, .bool false] 28)).alloc (.cells #[.int .i64 0, .bool false] 28)).alloc (.cells #[.int .i64 0, .bool false] 28)).heap.size := by simp
  generalize (((w.alloc (.cells #[.int .i64 0, .bool false] 28)).alloc (.cells #[.int .i64 0, .bool false] 28)).alloc (.cells #[.int .i64 0, .bool false] 28)) = wA at bel r0 r1 s0 s1 u0 u1 rf sf uf z1 ⊢
  refine (l1New_any a len cap _ (isCode_belowC HC.out bel)).mono ?_
  rintro e w1 ⟨rfl, H, rfl⟩
  have c1 := cur_newC w wA wA.heap.size a len cap H HC.out bel rfl
  have nb : Below wA.heap.size wA (wA.alloc (.cells #[.slice a len cap, .int .i64 0, .int .i64 H] 96)) := (Below.refl _ _).alloc (Nat.le_refl _) _
  have r0 := keepc nb r0
  have r1 := keepc nb r1
  have s0 := keepc nb s0
  have s1 := keepc nb s1
  have u0 := keepc nb u0
  have u1 := keepc nb u1
  have rf := fun j => (nb.frozen (p := ⟨w.heap.size, j, none⟩) (show w.heap.size < _ by omega)).trans (rf j)
  have sf := fun j => (nb.frozen (p := ⟨w.heap.size + 1, j, none⟩) (show w.heap.size + 1 < _ by omega)).trans (sf j)
  have uf := fun j => (nb.frozen (p := ⟨w.heap.size + 1 + 1, j, none⟩) (show w.heap.size + 1 + 1 < _ by omega)).trans (uf j)
  have bel := belowOf bel nb
  generalize wA.alloc (.cells #[.slice a len cap, .int .i64 0, .int .i64 H] 96) = wB at bel c1 r0 r1 s0 s1 u0 u1 rf sf uf ⊢
  clear nb
  generalize hp : wA.heap.size = p at c1 z1 ⊢
  clear hp
  go_wp2_with fail
  refine (l1All_any _).mono ?_
  rintro e w2 ⟨va, rfl, hrow, hb2⟩
  rw [allSyms_length] at hrow
  obtain ⟨g, cap', rfl, hg1, hg2⟩ := hrow.form (by decide)
  have h8 : Eight w2 g := fun k hk => ⟨(hrow.cellAt (k * 2) (by omega)).trans (allSyms_at k hk).1, (hrow.cellAt (k * 2 + 1) (by omega)).trans (allSyms_at k hk).2⟩
  have r0 := keepc hb2 r0
  have r1 := keepc hb2 r1
  have s0 := keepc hb2 s0
  have s1 := keepc hb2 s1
  have u0 := keepc hb2 u0
  have u1 := keepc hb2 u1
  have hltB : w.heap.size + 1 + 1 < wB.heap.size := World.block_lt_of_cell? wB _ (by assumption)
  have rf := fun j => (hb2.frozen (p := ⟨w.heap.size, j, none⟩) (show w.heap.size < _ by omega)).trans (rf j)
  have sf := fun j => (hb2.frozen (p := ⟨w.heap.size + 1, j, none⟩) (show w.heap.size + 1 < _ by omega)).trans (sf j)
  have uf := fun j => (hb2.frozen (p := ⟨w.heap.size + 1 + 1, j, none⟩) (show w.heap.size + 1 + 1 < _ by omega)).trans (uf j)
  have c2 := c1.below hb2
  have hgp : g ≠ p := by
    obtain ⟨H, hh⟩ := c1.h
    have := World.block_lt_of_cell? wB _ hh
    have : p < wB.heap.size := this
    omega
  clear hrow hb2 c1
  have H8 := hide h8
  clear h8
  go_wp2_with fail
  have n0 : w.heap.size ≠ p := by omega
  have n1 : w.heap.size + 1 ≠ p := by omega
  have n2 : w.heap.size + 1 + 1 ≠ p := by omega
  have y0 : w.heap.size < w2.heap.size := World.block_lt_of_cell? w2 _ r0
  have y1 : w.heap.size + 1 < w2.heap.size := World.block_lt_of_cell? w2 _ s0
  have y2 : w.heap.size + 1 + 1 < w2.heap.size := World.block_lt_of_cell? w2 _ u0
  have R := hide (And.intro r0 (And.intro r1 (And.intro s0 (And.intro s1 (And.intro u0 u1)))))
  have RF := hide (And.intro rf (And.intro sf uf))
  clear r0 r1 s0 s1 u0 u1 rf sf uf
  have hg1' : w.heap.size ≠ g := by omega
  have hg2' : w.heap.size + 1 ≠ g := by omega
  have hg3' : w.heap.size + 1 + 1 ≠ g := by omega
  obtain ⟨CG, hC0⟩ : ∃ CG : Nat → Option Value, ∀ j, w2.cell? ⟨g, j, none⟩ = CG j := ⟨fun j => w2.cell? ⟨g, j, none⟩, fun _ => rfl⟩
  have HCG : Hid (∀ k : Nat, k < 8 → CG (k * 2) = some (.int .i64 ((k : Int) % 4)) ∧ CG (k * 2 + 1) = some (.bool (decide (4 ≤ k)))) := fun k hk => ⟨(hC0 _).symm.trans (H8.out k hk).1, (hC0 _).symm.trans (H8.out k hk).2⟩
  have HC0 := hide hC0
  clear H8
  go_region_held3 (fun w' => ∀ j, w'.cell? ⟨g, j, none⟩ = CG j)
    (first | (with_reducible assumption) | (intro j; go_simp; done))
    (first | (go_at_call 41; refine (l1Below_any w _ p a len cap 8 (by first | (with_reducible assumption) | exact CurAt.below (by with_reducible assumption) (Below.drew (Below.refl _ _))) (by omega) (by omega)).mono ?_; rintro e w3 ⟨x, rfl, x0, x1, c3, g3⟩; obtain ⟨n, rfl⟩ := Int.eq_ofNat_of_zero_le x0; have hn : n < 8 := (by omega); have hi0 : (0 : Int) ≤ (n : Int) := (by omega); have hi8 : (n : Int) < 8 := (by omega); have gg : w2.grownBy w3 (some p) := (grown_trans (by first | (with_reducible assumption) | exact grown_drew (by with_reducible assumption) | exact grown_drew (grown_refl _ _) | exact grown_refl _ _) g3); have hC3 : ∀ j, w3.cell? ⟨g, j, none⟩ = CG j := (fun j => (World.cell?_of_block (a := ⟨g, j, none⟩) (gg.block g hg2 (by simpa using hgp))).trans (HC0.out j)); have d0 := (HCG.out n hn).1; have d1 := (HCG.out n hn).2; have r0 := keepg gg R.out.1 n0; have r1 := keepg gg R.out.2.1 n0; have s0 := keepg gg R.out.2.2.1 n1; have s1 := keepg gg R.out.2.2.2.1 n1; have u0 := keepg gg R.out.2.2.2.2.1 n2; have u1 := keepg gg R.out.2.2.2.2.2 n2; have rf := (fun j => keepgf gg (RF.out.1 j) y0 n0); have sf := (fun j => keepgf gg (RF.out.2.1 j) y1 n1); have uf := (fun j => keepgf gg (RF.out.2.2 j) y2 n2); clear x0 x1 g3))
  go_wp2_with fail
  rename_i A1 A2 A3 A4 A5 A6 A7 A8 A9 A10 A11 A12 A13 A14 A15 A16 A17 A18 A19 B1 B2 B3 B4 B5 B6 B7 B8 B9 B10 B11 B12 B13 B14 B15 B16 B17 B18 B19 HHELD
  clear HHELD
  have wn : ∀ m : Nat, win ((m : Int) % 4) 0 3 = true := fun m => win_true (by omega) (by omega)
  have k0 : w.heap.size ≤ w.heap.size := Nat.le_refl _
  have k1 : w.heap.size ≤ w.heap.size + 1 := by omega
  have k2 : w.heap.size ≤ w.heap.size + 1 + 1 := by omega
  have bel3 := c3.bel
  exact bodyPost_ret (v := .tuple #[.agg #[.int .i64 ((A3 : Int) % 4), .bool (decide (4 ≤ A3))], .agg #[.int .i64 ((B3 : Int) % 4), .bool (decide (4 ≤ B3))], .agg #[.int .i64 ((n : Int) % 4), .bool (decide (4 ≤ n))]]) (by simp [results, Try.results26, go_sem, r0, r1, s0, s1, u0, u1]) rfl ⟨_, _, _, _, _, _, rfl, wn _, wn _, wn _, (((((bel3.setCell k0 _).setCell k0 _).setCell k1 _).setCell k1 _).setCell k2 _).setCell k2 _⟩

end Go.Proofs.Ytgafdkaiiajieaa
