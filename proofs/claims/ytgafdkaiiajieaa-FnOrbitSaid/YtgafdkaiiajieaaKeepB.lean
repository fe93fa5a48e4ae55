/- slices.DeleteFunc with KeepersOf's closure: the row keeps the symmetries that keep the point. Condition: at most 8 symmetries. -/
import Derived.Test.YtgafdkaiiajieaaKeepA
import Derived.Lib.SliceRun
namespace Go.Proofs.Ytgafdkaiiajieaa
open Go.RowKit Go.Sort
open Fl

/-- Element i of a row of symmetries. -/
def SymAt (w : World) (g i : Nat) (s : Int × Bool) : Prop := w.cell? ⟨g, i * 2, none⟩ = some (.int .i64 s.1) ∧ w.cell? ⟨g, i * 2 + 1, none⟩ = some (.bool s.2)

/-- A row at block g in the midst of a deletion: the first elements are K's, those from j on are l's. -/
structure RowD (l : List (Int × Bool)) (g n base : Nat) (w0 wr : World) (j : Nat) (K : List (Int × Bool)) : Prop where
  le : K.length ≤ j
  jn : j ≤ n
  pre : ∀ i, i < K.length → SymAt wr g i (K.getD i (0, false))
  post : ∀ i, j ≤ i → i < n → SymAt wr g i (l.getD i (0, false))
  all : ∀ c, c < n * 2 → ∃ v, wr.cell? ⟨g, c, none⟩ = some v
  frz : ∀ c, wr.frozen? ⟨g, c, none⟩ = false
  bel : Below base w0 wr
  glow : base ≤ g
  low : base ≤ wr.heap.size
  glt : g < wr.heap.size

theorem RowD.below {l : List (Int × Bool)} {g n base : Nat} {w0 wr W : World} {j : Nat} {K : List (Int × Bool)} (h : RowD l g n base w0 wr j K) (hb : Below wr.heap.size wr W) : RowD l g n base w0 W j K :=
  ⟨h.le, h.jn, fun i hi => ⟨keepc hb (h.pre i hi).1, keepc hb (h.pre i hi).2⟩, fun i h1 h2 => ⟨keepc hb (h.post i h1 h2).1, keepc hb (h.post i h1 h2).2⟩,
    fun c hc => (h.all c hc).imp fun _ e => keepc hb e, fun c => (hb.frozen (p := ⟨g, c, none⟩) h.glt).trans (h.frz c), h.bel.trans (hb.mono h.low), h.glow, Nat.le_trans h.low hb.size, Nat.lt_of_lt_of_le h.glt hb.size⟩

theorem RowD.skip {l : List (Int × Bool)} {g n base : Nat} {w0 wr : World} {j : Nat} {K : List (Int × Bool)} (h : RowD l g n base w0 wr j K) (hj : j < n) : RowD l g n base w0 wr (j + 1) K :=
  ⟨by have := h.le; omega, hj, h.pre, fun i h1 h2 => h.post i (by omega) h2, h.all, h.frz, h.bel, h.glow, h.low, h.glt⟩

theorem cell_set2 {w : World} {g a b c : Nat} {u v : Value} (h1 : c ≠ a) (h2 : c ≠ b) : ((w.setCell ⟨g, a, none⟩ u).setCell ⟨g, b, none⟩ v).cell? ⟨g, c, none⟩ = w.cell? ⟨g, c, none⟩ :=
  (World.cell?_setCell_other _ ⟨g, b, none⟩ ⟨g, c, none⟩ _ (by simp)).trans (World.cell?_setCell_other _ ⟨g, a, none⟩ ⟨g, c, none⟩ _ (by simp))

theorem RowD.keep {l : List (Int × Bool)} {g n base : Nat} {w0 wr : World} {j : Nat} {K : List (Int × Bool)} (h : RowD l g n base w0 wr j K) (hj : j < n) (s : Int × Bool) :
    RowD l g n base w0 ((wr.setCell ⟨g, K.length * 2, none⟩ (.int .i64 s.1)).setCell ⟨g, K.length * 2 + 1, none⟩ (.bool s.2)) (j + 1) (K ++ [s]) := by
  have hle := h.le
  obtain ⟨u0, hu0⟩ := h.all (K.length * 2) (by omega)
  obtain ⟨u1, hu1⟩ := h.all (K.length * 2 + 1) (by omega)
  have n0 : ((wr.setCell ⟨g, K.length * 2, none⟩ (.int .i64 s.1)).setCell ⟨g, K.length * 2 + 1, none⟩ (.bool s.2)).cell? ⟨g, K.length * 2, none⟩ = some (.int .i64 s.1) :=
    (World.cell?_setCell_other _ ⟨g, K.length * 2 + 1, none⟩ ⟨g, K.length * 2, none⟩ _ (by simp)).trans (World.cell?_setCell_same _ _ _ hu0)
  have n1 : ((wr.setCell ⟨g, K.length * 2, none⟩ (.int .i64 s.1)).setCell ⟨g, K.length * 2 + 1, none⟩ (.bool s.2)).cell? ⟨g, K.length * 2 + 1, none⟩ = some (.bool s.2) :=
    World.cell?_setCell_same _ _ _ ((World.cell?_setCell_other _ ⟨g, K.length * 2, none⟩ ⟨g, K.length * 2 + 1, none⟩ _ (by simp)).trans hu1)
  refine ⟨by simp; omega, hj, fun i hi => ?_, fun i h1 h2 => ?_, fun c hc => ?_, fun c => ?_, (h.bel.setCell (p := ⟨g, K.length * 2, none⟩) h.glow _).setCell (p := ⟨g, K.length * 2 + 1, none⟩) h.glow _, h.glow, by simpa [World.setCell] using h.low, by simpa [World.setCell] using h.glt⟩
  · by_cases e : i = K.length
    · subst e
      have : (K ++ [s]).getD K.length (0, false) = s := by simp [List.getD]
      rw [this]
      exact ⟨n0, n1⟩
    · have hi' : i < K.length := by simp at hi; omega
      have : (K ++ [s]).getD i (0, false) = K.getD i (0, false) := by simp [List.getD, List.getElem?_append_left hi']
      rw [this]
      exact ⟨(cell_set2 (by omega) (by omega)).trans (h.pre i hi').1, (cell_set2 (by omega) (by omega)).trans (h.pre i hi').2⟩
  · exact ⟨(cell_set2 (by omega) (by omega)).trans (h.post i (by omega) h2).1, (cell_set2 (by omega) (by omega)).trans (h.post i (by omega) h2).2⟩
  · by_cases e0 : c = K.length * 2
    · subst e0; exact ⟨_, n0⟩
    · by_cases e1 : c = K.length * 2 + 1
      · subst e1; exact ⟨_, n1⟩
      · exact (h.all c hc).imp fun _ e => (cell_set2 e0 e1).trans e
  · have := h.frz c
    go_simp

/-- 'clear(s)' at symmetries: the row's cells are written over, nothing else turns. -/
theorem clear_syms (w : World) (ty : TypeId) (b o n c : Nat) (hn : 0 < n) (hc : ∀ j, j < n * 2 → (w.cell? ⟨b, o + j, none⟩).isSome = true) (hf : ∀ j, j < n * 2 → w.frozen? ⟨b, o + j, none⟩ = false) :
    ∃ L : List Value, L.length = n * 2 ∧ (Builtin.clear_ #[33] ty #[.slice (some ⟨b, o, none⟩) n c]).run Try.prog w = .ok (.tuple #[]) (w.setCells b o L) := by
  have hv : ∀ w, (zeroValue 28).run Try.prog w = .ok (.agg #[.int .i64 0, .bool false]) w := fun w => by go_simp
  have hl : (Builtin.zeroCells #[.int .i64 0, .bool false] n).toList.length = n * 2 := by simp [Builtin.zeroCells]
  have h1 : ∀ v ∈ (Builtin.zeroCells #[.int .i64 0, .bool false] n).toList, v.oneCell' = true := by
    intro v hv
    simp only [Builtin.zeroCells, Array.toList_map, List.mem_map] at hv
    obtain ⟨i, _, rfl⟩ := hv
    rcases (show i % 2 = 0 ∨ i % 2 = 1 by omega) with e | e
    · simp [e]; rfl
    · simp [e]; rfl
  have hst := run_storeCells_cells (P := Try.prog) b o (Builtin.zeroCells #[.int .i64 0, .bool false] n).toList 0 w (by rw [hl]; simpa using hc) (by rw [hl]; simpa using hf) h1
  simp only [Nat.add_zero] at hst
  refine ⟨_, hl, ?_⟩
  obtain ⟨m, rfl⟩ : ∃ m, n = m + 1 := ⟨n - 1, by omega⟩
  simp [Builtin.clear_, run_underlying Try.underlying33, hv, Value.cells, hst]

theorem RowD.start {l : List (Int × Bool)} {g n base : Nat} {w0 wr : World} (h : RowD l g n base w0 wr 0 []) (hl : l.length = n) {i : Nat} (hi : i < n) : RowD l g n base w0 wr (i + 1) (l.take i) :=
  ⟨by simp; omega, hi, fun k hk => by
    have hk' : k < i := by simp at hk; omega
    have : (l.take i).getD k (0, false) = l.getD k (0, false) := by simp [List.getD, hk']
    rw [this]
    exact h.post k (Nat.zero_le _) (by omega), fun k h1 h2 => h.post k (Nat.zero_le _) h2, h.all, h.frz, h.bel, h.glow, h.low, h.glt⟩

theorem filter_take_all {p : Int × Bool → Bool} {l : List (Int × Bool)} {i : Nat} (hi : i < l.length) (h : ∀ j, j < i → p (l.getD j (0, false)) = true) (hn : p (l.getD i (0, false)) = false) : (l.take (i + 1)).filter p = l.take i := by
  rw [List.take_succ_eq_append_getElem hi, List.filter_append]
  have e1 : (l.take i).filter p = l.take i := by
    rw [List.filter_eq_self]
    intro s hs
    obtain ⟨j, hj, rfl⟩ := List.getElem_of_mem hs
    have hj' : j < i := by simp at hj; omega
    have := h j hj'
    simpa [List.getD, List.getElem?_eq_getElem (show j < l.length by omega)] using this
  have e2 : p l[i] = false := by simpa [List.getD, List.getElem?_eq_getElem hi] using hn
  rw [e1]
  simp [e2]

theorem filter_take_succ {p : Int × Bool → Bool} {l : List (Int × Bool)} {j : Nat} (hj : j < l.length) : (l.take (j + 1)).filter p = if p l[j] then (l.take j).filter p ++ [l[j]] else (l.take j).filter p := by
  rw [List.take_succ_eq_append_getElem hj, List.filter_append]
  cases h : p l[j] <;> simp [h]

theorem setCells_below {B g : Nat} {a : World} (hg : B ≤ g) : ∀ (L : List Value) (o : Nat) (w : World), Below B a w → Below B a (w.setCells g o L)
  | [], _, _, h => h
  | v :: r, o, _, h => setCells_below hg r (o + 1) _ (h.setCell (p := ⟨g, o, none⟩) hg v)

/-- What is left of a row. -/
def RetDel (l : List (Int × Bool)) (g cap base : Nat) (w : World) (e : Ending) (w' : World) : Prop :=
  ∃ m, e = .returned (.slice (some ⟨g, 0, none⟩) m cap) ∧ m = l.length ∧ (∀ i, i < m → SymAt w' g i (l.getD i (0, false))) ∧ Below base w w'

set_option maxRecDepth 100000 in
set_option maxHeartbeats 4000000 in
theorem deleteK_any (g n cap base : Nat) (l : List (Int × Bool)) (x y b : Nat) (w : World) (h : ReadsS w (some ⟨g, 0, none⟩) n cap l) (hD : RowD l g n base w w 0 []) (hn : n ≤ 8) (hcap : n ≤ cap) (hcm : cap ≤ maxLen) (hv : ∀ s ∈ l, win s.1 0 3 = true) (hp : Pt x y)
    (hc : w.cell? ⟨b, 0, none⟩ = some (.complex .f32 x y)) (hb : b < base) :
    Calls Try.prog 50 #[.slice (some ⟨g, 0, none⟩) n cap, .func (.func 51) #[] #[.pointer (some ⟨b, 0, none⟩)]] w (RetDel (l.filter (kpB x y)) g cap base w) := by
  have HX := hide (indexK_any _ n cap l x y b w h hn hv hp hc)
  have HL := hide h.1
  have KC := hide (fun s (hs : s ∈ l) W (hW : W.cell? ⟨b, 0, none⟩ = some (.complex .f32 x y)) => keepC_any s.1 s.2 x y b W (hv s hs) hp hW)
  have HD := hide hD
  have HCW := hide hc
  clear h hv hp hD
  unfold RetDel
  generalize kpB x y = p at KC HX ⊢
  unfold maxLen at hcm
  go_enter Try.func50, Try.ntmps50
  go_wp2_with fail
  refine HX.out.mono ?_
  rintro e w1 ⟨⟨q, rfl, hq⟩, hb1⟩
  have HD := hide (HD.out.below hb1)
  clear hb1 HX hc
  rcases hq with ⟨rfl, hall⟩ | ⟨i, hi, rfl, hall, hnot⟩
  · have HF : Hid (l.filter p = l) := by
      show l.filter p = l
      rw [List.filter_eq_self]
      intro s hs
      obtain ⟨j, hj, rfl⟩ := List.getElem_of_mem hs
      have := hall j hj
      simpa [List.getD, List.getElem?_eq_getElem hj] using this
    clear hall
    go_wp2_with fail
    go_ret
    exact ⟨n, rfl, by rw [HF.out, HL.out], fun i hi => by rw [HF.out]; exact HD.out.post i (Nat.zero_le _) hi, HD.out.bel⟩
  · have hin : i < n := by rw [← HL.out]; exact hi
    have HK := hide (filter_take_all hi hall hnot)
    have HS : Hid (RowD l g n base w w1 (i + 1) ((l.take (i + 1)).filter p)) := by
      show RowD l g n base w w1 (i + 1) ((l.take (i + 1)).filter p)
      rw [HK.out]
      exact HD.out.start HL.out hin
    have hlen0 : ((l.take (i + 1)).filter p).length = i := by rw [HK.out]; simp; omega
    have hne : ((i : Int) == -1) = false := by rw [beq_eq_false_iff_ne]; omega
    clear hall hnot HD HK hi
    go_wp2_with fail
    go_loopw [5, 6] (fun mi ji wr => ∃ j : Nat, j ≤ n ∧ ji = .int .i64 j ∧ mi = .int .i64 ((l.take j).filter p).length ∧ ((l.take j).filter p).length < j ∧ Hid (RowD l g n base w wr j ((l.take j).filter p))) (fun _ ji _ => n - (intOf ji).toNat)
    case atStart => exact ⟨i + 1, hin, by go_num, by rw [hlen0], by omega, HS⟩
    case round =>
      clear HS hlen0
      obtain ⟨j, hj, rfl, rfl, hmj, HD⟩ := hrel
      have c0 : wr.cell? ⟨b, 0, none⟩ = some (.complex .f32 x y) := by
        exact ((HD.out.bel).cell (p := ⟨b, 0, none⟩) hb).trans HCW.out
      by_cases hlt : j < n
      · have hjl : j < l.length := by rw [HL.out]; exact hlt
        have hgd : l.getD j (0, false) = l[j] := by simp [List.getD, List.getElem?_eq_getElem hjl]
        obtain ⟨x0, x1⟩ := HD.out.post j (Nat.le_refl _) hlt
        rw [hgd] at x0 x1
        have HK := hide (KC.out l[j] (List.getElem_mem hjl))
        have HS := hide (filter_take_succ (p := p) hjl)
        generalize l[j] = s at x0 x1 HK HS
        obtain ⟨T, F⟩ := s
        clear hgd hjl
        simp only at x0 x1
        replace HK : Hid (∀ W, W.cell? ⟨b, 0, none⟩ = some (.complex .f32 x y) → Calls Try.prog 51 #[.agg #[.int .i64 T, .bool F], .pointer (some ⟨b, 0, none⟩)] W fun e w' => e = .returned (.bool (!p (T, F))) ∧ Below W.heap.size W w') := HK
        replace HS : Hid ((l.take (j + 1)).filter p = if p (T, F) then (l.take j).filter p ++ [(T, F)] else (l.take j).filter p) := HS
        obtain ⟨K1, hK1⟩ : ∃ K1, (l.take (j + 1)).filter p = K1 := ⟨_, rfl⟩
        rw [hK1] at HS
        have HK1 := hide hK1
        clear hK1
        generalize (l.take j).filter p = K at HD HS hmj ⊢
        obtain ⟨m, hm⟩ : ∃ m, K.length = m := ⟨_, rfl⟩
        obtain ⟨u0, hu0⟩ := HD.out.all (K.length * 2) (by omega)
        obtain ⟨u1, hu1⟩ := HD.out.all (K.length * 2 + 1) (by omega)
        rw [hm] at hu0 hu1 hmj ⊢
        have HM := hide hm
        clear hm
        obtain ⟨bb, hbb⟩ : ∃ bb, p (T, F) = bb := ⟨_, rfl⟩
        rw [hbb] at HK HS
        clear hbb
        go_wp2_with fail
        have nb : Below wr.heap.size wr (wr.alloc (.cells #[.int .i64 T, .bool F] 28)) := (Below.refl _ _).alloc (Nat.le_refl _) _
        have s0 : (wr.alloc (.cells #[.int .i64 T, .bool F] 28)).cell? ⟨wr.heap.size, 0, none⟩ = some (.int .i64 T) := by go_simp
        have s1 : (wr.alloc (.cells #[.int .i64 T, .bool F] 28)).cell? ⟨wr.heap.size, 1, none⟩ = some (.bool F) := by go_simp
        refine (HK.out _ (keepc nb c0)).mono ?_
        rintro e w4 ⟨rfl, hb4⟩
        have s0 := keepc hb4 s0
        have s1 := keepc hb4 s1
        have nb := belowOf nb hb4
        have HD := hide (HD.out.below nb)
        have hu0 := keepc nb hu0
        have hu1 := keepc nb hu1
        clear nb hb4 c0 x0 x1 HK
        cases bb
        · replace HS : Hid (K1 = K) := HS
          have HN := hide (HD.out.skip hlt)
          clear HD s0 s1 hu0 hu1
          go_wp2_with fail
          go_roundw
          case rel => exact ⟨j + 1, by omega, by go_num, by rw [HK1.out, HS.out, HM.out], by rw [HK1.out, HS.out, HM.out]; omega, by rw [HK1.out, HS.out]; exact HN⟩
          case measure => simp [intOf]; omega
        · replace HS : Hid (K1 = K ++ [(T, F)]) := HS
          have HN : Hid (RowD l g n base w ((w4.setCell ⟨g, m * 2, none⟩ (.int .i64 T)).setCell ⟨g, m * 2 + 1, none⟩ (.bool F)) (j + 1) (K ++ [(T, F)])) := by
            have := HD.out.keep hlt (T, F)
            rw [HM.out] at this
            exact this
          have f0 := HD.out.frz (m * 2)
          have f1 := HD.out.frz (m * 2 + 1)
          have hmn : m < n := by omega
          clear HD
          go_wp2_with fail
          go_roundw
          case rel => exact ⟨j + 1, by omega, by go_num, by rw [HK1.out, HS.out, List.length_append, HM.out]; go_num, by rw [HK1.out, HS.out, List.length_append, HM.out]; simp; omega, by rw [HK1.out, HS.out]; exact HN⟩
          case measure => simp [intOf]; omega
      · obtain rfl : j = n := by omega
        rw [show l.take j = l from List.take_of_length_le (by rw [HL.out]; exact Nat.le_refl _)] at hmj HD ⊢
        obtain ⟨K, hKE⟩ : ∃ K, l.filter p = K := ⟨_, rfl⟩
        rw [hKE] at hmj HD ⊢
        have HKE := hide hKE
        clear hKE
        obtain ⟨m, hm⟩ : ∃ m, K.length = m := ⟨_, rfl⟩
        rw [hm] at hmj ⊢
        have HM := hide hm
        clear hm c0
        have hmi : (m : Int) ≤ (j : Int) := by omega
        have hmc : (m : Int) ≤ (cap : Int) := by omega
        obtain ⟨L, hL, hclr⟩ := clear_syms wr 0 g (m * 2) (j - m) (cap - m) (by omega) (fun c hc => Option.isSome_iff_exists.2 (HD.out.all (m * 2 + c) (by omega))) (fun c _ => HD.out.frz (m * 2 + c))
        have bel := setCells_below HD.out.glow L (m * 2) _ HD.out.bel
        have hcells := hide (fun i (hi : i < m) => show SymAt (wr.setCells g (m * 2) L) g i (K.getD i (0, false)) from
          ⟨(World.cell?_setCells_out g L (m * 2) wr ⟨g, i * 2, none⟩ (fun _ _ => Or.inl (by show i * 2 < m * 2; omega))).trans (HD.out.pre i (by rw [HM.out]; exact hi)).1,
            (World.cell?_setCells_out g L (m * 2) wr ⟨g, i * 2 + 1, none⟩ (fun _ _ => Or.inl (by show i * 2 + 1 < m * 2; omega))).trans (HD.out.pre i (by rw [HM.out]; exact hi)).2⟩)
        generalize wr.setCells g (m * 2) L = wE at hclr bel hcells
        clear hL HD
        go_wp2_with fail
        go_ret
        exact ⟨m, rfl, by rw [HKE.out]; exact HM.out.symm, by rw [HKE.out]; exact hcells.out, bel⟩

end Go.Proofs.Ytgafdkaiiajieaa
