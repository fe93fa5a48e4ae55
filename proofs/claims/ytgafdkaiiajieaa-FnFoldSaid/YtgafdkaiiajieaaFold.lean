/- What FoldPoint computes: an image of the point in the wedge, and a symmetry that makes it. Condition: a kind from 0 to 3, a point. -/
import Derived.Test.YtgafdkaiiajieaaWedge
import Derived.Test.YtgafdkaiiajieaaOrbI
namespace Go.Proofs.Ytgafdkaiiajieaa
open Go.RowKit Go.Sort
open Fl

/-- A folded point. -/
def RetFold (kind : Int) (x y : Nat) (w : World) (e : Ending) (w' : World) : Prop :=
  ∃ t f, e = .returned (.tuple #[.complex .f32 (actW t f x y).1 (actW t f x y).2, .agg #[.int .i64 t, .bool f], .bool true]) ∧ (t, f) ∈ symsOf kind ∧
    (val (actW t f x y).1, val (actW t f x y).2) = foldI kind (val x, val y) ∧ Below w.heap.size w w'

theorem fold_found {kind : Int} (h0 : 0 ≤ kind) (h3 : kind ≤ 3) {x y : Nat} (hp : Pt x y) {t : Int} {f : Bool} (hm : (t, f) ∈ symsOf kind) (hw : wedgeI kind (val (actW t f x y).1, val (actW t f x y).2) = true) :
    (val (actW t f x y).1, val (actW t f x y).2) = foldI kind (val x, val y) := by
  have h1 := ((wedge_fold h0 h3 _).1 hw).symm
  rw [(act_ok t f hp).2] at h1 ⊢
  rw [h1, fold_act h0 h3 hm]

/-- One of the symmetries folds the point. -/
theorem fold_none {kind : Int} (h0 : 0 ≤ kind) (h3 : kind ≤ 3) {x y : Nat} (hp : Pt x y) (h : ∀ j, (hj : j < (symsOf kind).length) → wedgeI kind (val (actW (symsOf kind)[j].1 (symsOf kind)[j].2 x y).1, val (actW (symsOf kind)[j].1 (symsOf kind)[j].2 x y).2) = false) : False := by
  obtain ⟨t, f, hm, hw⟩ := wedge_some h0 h3 (val x, val y)
  obtain ⟨j, hj, e⟩ := List.getElem_of_mem hm
  have := h j hj
  rw [e, (act_ok t f hp).2, hw] at this
  cases this

set_option maxRecDepth 100000 in
set_option maxHeartbeats 4000000 in
theorem foldPoint_any (kind : Int) (x y : Nat) (w : World) (h0 : 0 ≤ kind) (h3 : kind ≤ 3) (hp : Pt x y) :
    Calls Try.prog 13 #[.int .i64 kind, .complex .f32 x y] w (RetFold kind x y w) := by
  have A := hide (fun l : Int × Bool => fun (h : l ∈ symsOf kind) W => actSym_y l.1 l.2 x y W (symsOf_win h) hp)
  have G := hide (fun l : Int × Bool => fun (_ : l ∈ symsOf kind) W => inWedge_any kind (actW l.1 l.2 x y).1 (actW l.1 l.2 x y).2 W h0 h3 (act_ok l.1 l.2 hp).1.pt)
  have FF := hide (fun l : Int × Bool => fun (h : l ∈ symsOf kind) => fold_found h0 h3 hp (t := l.1) (f := l.2) h)
  have FN := hide (fold_none h0 h3 hp)
  have HI := hide (fun W => isPoint_y x y W hp)
  have HS := hide (fun W => symsOf_any kind W)
  have hle := symsOf_le kind
  unfold RetFold
  generalize symsOf kind = l at A G FF FN HS hle ⊢
  clear hp h0 h3
  have bel : Below w.heap.size w (w.alloc (.cells #[.int .i64 0, .bool false] 28)) := (Below.refl _ _).alloc (Nat.le_refl _) _
  have o0 : (w.alloc (.cells #[.int .i64 0, .bool false] 28)).cell? ⟨w.heap.size, 0, none⟩ = some (.int .i64 0) := by go_simp
  have o1 : (w.alloc (.cells #[.int .i64 0, .bool false] 28)).cell? ⟨w.heap.size, 1, none⟩ = some (.bool false) := by go_simp
  have of : ∀ j, (w.alloc (.cells #[.int .i64 0, .bool false] 28)).frozen? ⟨w.heap.size, j, none⟩ = false := fun j => by go_simp
  go_enter Try.func13, Try.ntmps13
  go_upto_region 1 with fail
  generalize w.alloc (.cells #[.int .i64 0, .bool false] 28) = wA at bel o0 o1 of ⊢
  go_wp2_with fail
  refine (HI.out _).mono ?_
  rintro e w1 ⟨rfl, rfl⟩
  clear HI
  go_wp2_with fail
  refine (HS.out _).mono ?_
  rintro e w3 ⟨v, rfl, own, hb3⟩
  obtain ⟨aS, cS, rfl, hR⟩ := readsS_of_own own
  have lt : w.heap.size < wA.heap.size := World.block_lt_of_cell? wA _ o0
  have of3 : ∀ j, w3.frozen? ⟨w.heap.size, j, none⟩ = false := fun j => (hb3.frozen (p := ⟨w.heap.size, j, none⟩) lt).trans (of j)
  have o0 := keepc hb3 o0
  have o1 := keepc hb3 o1
  have bel := belowOf bel hb3
  clear own hb3 HS of lt
  generalize hN : l.length = n at hR hle ⊢
  have HN := hide hN
  have HR := hide hR
  have OF := hide of3
  clear hN hR of3
  go_wp2_with fail
  go_loopw [17] (fun i wr => ∃ k : Nat, k ≤ n ∧ i = .int .i64 k ∧ Hid (∀ j, (hj : j < l.length) → j < k → wedgeI kind (val (actW l[j].1 l[j].2 x y).1, val (actW l[j].1 l[j].2 x y).2) = false) ∧ Below w3.heap.size w3 wr) (fun i _ => n - (intOf i).toNat)
  case atStart => exact ⟨0, Nat.zero_le _, rfl, fun j _ hj => by omega, Below.refl _ _⟩
  case round =>
    obtain ⟨k, hk, rfl, hno, hb3⟩ := hrel
    by_cases hlt : k < n
    · obtain ⟨g, rfl, hg⟩ : ∃ g, aS = some ⟨g, 0, none⟩ ∧ ∀ j, j < n * 2 → w3.cell? ⟨g, j, none⟩ = (symCells l)[j]? := by
        rcases HR.out.2 with h0 | ⟨g, hg, _, _, hc⟩
        · omega
        · exact ⟨g, hg, hc⟩
      have hkl : k < l.length := by rw [HN.out]; exact hlt
      obtain ⟨x0, x1⟩ := ReadsS.at hg HN.out k hlt
      have x0 := keepc hb3 x0
      have x1 := keepc hb3 x1
      have HA := hide (A.out l[k] (List.getElem_mem hkl))
      have HG := hide (G.out l[k] (List.getElem_mem hkl))
      have HF := hide (FF.out l[k] (List.getElem_mem hkl))
      have HM := hide (List.getElem_mem hkl)
      have hno2 := hide (fun (e : wedgeI kind (val (actW l[k].1 l[k].2 x y).1, val (actW l[k].1 l[k].2 x y).2) = false) j (hj : j < l.length) (hj2 : j < k + 1) => show wedgeI kind (val (actW l[j].1 l[j].2 x y).1, val (actW l[j].1 l[j].2 x y).2) = false from by
        by_cases e' : j = k
        · subst e'; exact e
        · exact hno.out j hj (by omega))
      generalize l[k] = s at x0 x1 HA HG HF HM hno2
      obtain ⟨T, F⟩ := s
      clear hg hno
      simp only at x0 x1
      have lt3 : w.heap.size < w3.heap.size := World.block_lt_of_cell? w3 _ o0
      have o0 := keepc hb3 o0
      have o1 := keepc hb3 o1
      have of : ∀ j, wr.frozen? ⟨w.heap.size, j, none⟩ = false := fun j => (hb3.frozen (p := ⟨w.heap.size, j, none⟩) lt3).trans (OF.out j)
      have bel := belowOf bel hb3
      replace HA : Hid (∀ W, Calls Try.prog 17 #[.agg #[.int .i64 T, .bool F], .complex .f32 x y] W fun e w' => e = .returned (.complex .f32 (actW T F x y).1 (actW T F x y).2) ∧ Below W.heap.size W w') := HA
      replace HG : Hid (∀ W, Calls Try.prog 14 #[.int .i64 kind, .complex .f32 (actW T F x y).1 (actW T F x y).2] W fun e w' => e = .returned (.bool (wedgeI kind (val (actW T F x y).1, val (actW T F x y).2))) ∧ W = w') := HG
      replace HF : Hid (wedgeI kind (val (actW T F x y).1, val (actW T F x y).2) = true → (val (actW T F x y).1, val (actW T F x y).2) = foldI kind (val x, val y)) := HF
      replace hno2 : Hid (wedgeI kind (val (actW T F x y).1, val (actW T F x y).2) = false → ∀ j, (hj : j < l.length) → j < k + 1 → wedgeI kind (val (actW l[j].1 l[j].2 x y).1, val (actW l[j].1 l[j].2 x y).2) = false) := hno2
      obtain ⟨P, hP⟩ : ∃ P, actW T F x y = P := ⟨_, rfl⟩
      have HP := hide hP
      rw [hP] at HA HG HF hno2
      clear hP
      obtain ⟨px, py⟩ := P
      obtain ⟨bb, hbb⟩ : ∃ bb, wedgeI kind (val px, val py) = bb := ⟨_, rfl⟩
      replace HG : Hid (∀ W, Calls Try.prog 14 #[.int .i64 kind, .complex .f32 px py] W fun e w' => e = .returned (.bool bb) ∧ W = w') := by rw [← hbb]; exact HG
      go_wp2_with fail
      have nb : Below wr.heap.size wr (wr.alloc (.cells #[.int .i64 T, .bool F] 28)) := (Below.refl _ _).alloc (Nat.le_refl _) _
      have s0 : (wr.alloc (.cells #[.int .i64 T, .bool F] 28)).cell? ⟨wr.heap.size, 0, none⟩ = some (.int .i64 T) := by go_simp
      have s1 : (wr.alloc (.cells #[.int .i64 T, .bool F] 28)).cell? ⟨wr.heap.size, 1, none⟩ = some (.bool F) := by go_simp
      refine (HA.out _).mono ?_
      rintro e w4 ⟨rfl, hb4⟩
      have s0 := keepc hb4 s0
      have s1 := keepc hb4 s1
      have nb := belowOf nb hb4
      clear x0 x1 hb4
      have ltr : w.heap.size < wr.heap.size := World.block_lt_of_cell? wr _ o0
      have o0 := keepc nb o0
      have o1 := keepc nb o1
      have of : ∀ j, w4.frozen? ⟨w.heap.size, j, none⟩ = false := fun j => (nb.frozen (p := ⟨w.heap.size, j, none⟩) ltr).trans (of j)
      have bel := belowOf bel nb
      have hb3 := belowOf hb3 nb
      clear nb
      go_wp2_with fail
      refine (HG.out _).mono ?_
      rintro e w5 ⟨rfl, rfl⟩
      clear HA HG
      cases bb
      · have hno3 := hide (hno2.out hbb)
        clear hbb hno2 HF HM HP s0 s1
        go_wp2_with fail
        go_roundw
        case rel => exact ⟨k + 1, by omega, by go_num, hno3, hb3⟩
        case measure => simp [intOf]; omega
      · have HV := hide (HF.out hbb)
        have f0 := of 0
        have f1 := of 1
        clear hbb hno2 HF of
        go_wp2_with fail
        go_region
        have bel := ((bel.setCell (p := ⟨w.heap.size, 0, none⟩) (Nat.le_refl _) (.int .i64 T)).setCell (p := ⟨w.heap.size, 1, none⟩) (Nat.le_refl _) (.bool F)).drew
        have z0 : ((w4.setCell ⟨w.heap.size, 0, none⟩ (.int .i64 T)).setCell ⟨w.heap.size, 1, none⟩ (.bool F)).drew.cell? ⟨w.heap.size, 0, none⟩ = some (.int .i64 T) := by go_simp
        have z1 : ((w4.setCell ⟨w.heap.size, 0, none⟩ (.int .i64 T)).setCell ⟨w.heap.size, 1, none⟩ (.bool F)).drew.cell? ⟨w.heap.size, 1, none⟩ = some (.bool F) := by go_simp
        generalize ((w4.setCell ⟨w.heap.size, 0, none⟩ (.int .i64 T)).setCell ⟨w.heap.size, 1, none⟩ (.bool F)).drew = w6 at bel z0 z1 ⊢
        clear o0 o1 f0 f1 s0 s1 hb3
        go_wp2_with fail
        refine bodyPost_ret (v := .tuple #[.complex .f32 px py, .agg #[.int .i64 T, .bool F], .bool true]) (by simp [results, Try.results13, go_sem, z0, z1]) rfl ⟨T, F, by rw [HP.out], HM.out, by rw [HP.out]; exact HV.out, bel⟩
    · obtain rfl : k = n := by omega
      exact (FN.out fun j hj => hno.out j hj (by rw [← HN.out]; exact hj)).elim

end Go.Proofs.Ytgafdkaiiajieaa
