/- What LayersAt computes: the places of the shards that a point lies in. Condition: at most twelve valid shards, a point. -/
import Derived.Test.YtgafdkaiiajieaaLightI
namespace Go.Proofs.Ytgafdkaiiajieaa
open Go.RowKit Go.Sort
open Fl

theorem Try.infoInt2 : (Try.prog.info? 3).map (fun i => (i.zero, i.size, i.bytes)) = some (some (.int .i64 0), 1, 8) := by kernel_rfl

/-- The places of the shards that a point lies in, among the first k. -/
def lays (px py : Nat) (l : List Shd) (k : Nat) : List Nat := (List.range k).filter fun i => match l[i]? with | some s => liesW s px py | none => false

def laysV (px py : Nat) (l : List Shd) (k : Nat) : List Value := (lays px py l k).map fun i : Nat => Value.int .i64 (i : Int)

theorem lays_succ (px py : Nat) (l : List Shd) (k : Nat) {s : Shd} (h : l[k]? = some s) : lays px py l (k + 1) = if liesW s px py then lays px py l k ++ [k] else lays px py l k := by
  unfold lays
  rw [List.range_succ, List.filter_append]
  by_cases hl : liesW s px py = true
  · rw [if_pos hl]
    simp [h, hl]
  · rw [if_neg hl]
    simp [h, hl]

theorem lays_le (px py : Nat) (l : List Shd) (k : Nat) : (lays px py l k).length ≤ k := by
  unfold lays
  exact Nat.le_trans (List.length_filter_le _ _) (by simp)

/-- The shards at these places are those that the point lies in. -/
theorem lays_few (px py : Nat) (l : List Shd) : (lays px py l l.length).filterMap (fun i => l[i]?) = l.filter fun s => liesW s px py := by
  have key : ∀ k, k ≤ l.length → (lays px py l k).filterMap (fun i => l[i]?) = (l.take k).filter fun s => liesW s px py := by
    intro k
    induction k with
    | zero => intro _; simp [lays]
    | succ k ih =>
      intro hk
      have hk' : k < l.length := by omega
      have hs : l[k]? = some l[k] := List.getElem?_eq_getElem hk'
      rw [lays_succ px py l k hs, List.take_add_one, hs, List.filter_append, ← ih (by omega)]
      by_cases hl : liesW l[k] px py = true
      · rw [if_pos hl, List.filterMap_append]
        simp [hl, hk']
      · rw [if_neg hl]
        simp [hl]
  rw [key l.length (Nat.le_refl _), List.take_length]

theorem lays_mem {px py : Nat} {l : List Shd} {k i : Nat} (h : i ∈ lays px py l k) : i < k ∧ ∃ s, l[i]? = some s ∧ liesW s px py = true := by
  unfold lays at h
  rw [List.mem_filter, List.mem_range] at h
  refine ⟨h.1, ?_⟩
  have h2 := h.2
  cases hs : l[i]? with
  | none => rw [hs] at h2; cases h2
  | some s => rw [hs] at h2; exact ⟨s, rfl, h2⟩

/-- A row of places reads as a slice. -/
theorem readsN {w : World} {base : Nat} {v : Value} {xs : List Nat} (h : w.ownsRow base 3 1 v xs.length (xs.map fun i : Nat => Value.int .i64 (i : Int))) :
    ∃ a cap, v = .slice a xs.length cap ∧ ∀ j, j < xs.length → ∃ g i, a = some ⟨g, 0, none⟩ ∧ xs[j]? = some i ∧ w.cell? ⟨g, j, none⟩ = some (.int .i64 (i : Int)) := by
  rcases h.2 with ⟨rfl, h0⟩ | ⟨g, cap, cur, rfl, hb, hg, hn, hm, _, _⟩
  · exact ⟨none, 0, by rw [h0], fun j hj => by omega⟩
  · refine ⟨_, cap, rfl, fun j hj => ⟨g, xs[j], rfl, List.getElem?_eq_getElem hj, ?_⟩⟩
    have e := h.cellAt j (by omega)
    rw [e]
    simp [List.getElem?_eq_getElem hj]

/-- The shards at the first k places. -/
def pick (l : List Shd) (L : List Nat) (k : Nat) : List Shd := (L.take k).filterMap fun i => l[i]?

theorem pick_succ {l : List Shd} {L : List Nat} {k i : Nat} {s : Shd} (h : L[k]? = some i) (hs : l[i]? = some s) : pick l L (k + 1) = pick l L k ++ [s] := by
  unfold pick
  rw [List.take_add_one, h, List.filterMap_append]
  simp [hs]

theorem pick_le (l : List Shd) (L : List Nat) (k : Nat) : (pick l L k).length ≤ k := by
  unfold pick
  refine Nat.le_trans (List.length_filterMap_le _ _) ?_
  rw [List.length_take]
  exact Nat.min_le_left ..

theorem pick_all (px py : Nat) (l : List Shd) : pick l (lays px py l l.length) (lays px py l l.length).length = l.filter fun s => liesW s px py := by
  unfold pick
  rw [List.take_length]
  exact lays_few px py l

set_option maxRecDepth 100000 in
set_option maxHeartbeats 4000000 in
theorem layers_any (a : Option Addr) (n cap : Nat) (l : List Shd) (px py : Nat) (w : World) (hr : ReadsO w a n cap l) (hok : ∀ s ∈ l, ShOk s) (h12 : n ≤ 12) (hp : Pt px py) :
    Calls Try.prog 39 #[.slice a n cap, .complex .f32 px py] w fun e w' => ∃ v, e = .returned v ∧ w'.ownsRow w.heap.size 3 1 v (lays px py l n).length (laysV px py l n) ∧ Below w.heap.size w w' := by
  obtain ⟨i0, hi, hz0, hz1, hz2⟩ := infoPartsG Try.infoInt2
  have hm := hr.2.1
  unfold maxLen at hm
  have HR := hide hr
  have HOK := hide hok
  have HPT := hide hp
  have A1 := hide (areShards_any a n cap l w hr hok h12)
  have P1 := hide (fun W => isPoint_y px py W hp)
  clear hr hok hp
  go_enter Try.func39, Try.ntmps39
  go_wp2_with fail
  refine A1.out.mono ?_
  rintro e w1 ⟨rfl, bel⟩
  go_wp2_with fail
  refine (P1.out _).mono ?_
  rintro e w' ⟨rfl, rfl⟩
  go_wp2_with fail
  have hx0 : (w1.alloc (.cells #[] 3)).ownsRow w.heap.size 3 1 (.slice (some ⟨w1.heap.size, 0, none⟩) 0 0) (lays px py l 0).length (laysV px py l 0) := World.ownsRow_lit w1 #[] 0 bel.size (by unfold maxLen; omega) rfl
  have hb0 : Below w.heap.size w (w1.alloc (.cells #[] 3)) := bel.alloc bel.size _
  generalize w1.alloc (.cells #[] 3) = wA at hx0 hb0 ⊢
  generalize Value.slice (some ⟨w1.heap.size, 0, none⟩) 0 0 = X0 at hx0 ⊢
  go_loopw [5, 19] (fun x i wr => ∃ k : Nat, k ≤ n ∧ i = .int .i64 k ∧ wr.ownsRow w.heap.size 3 1 x (lays px py l k).length (laysV px py l k) ∧ Below w.heap.size w wr) (fun _ i _ => n - (intOf i).toNat)
  case atStart => exact ⟨0, Nat.zero_le _, rfl, hx0, hb0⟩
  case round =>
    clear hx0 hb0 bel
    obtain ⟨k, hk, rfl, hown, bel⟩ := hrel
    by_cases hlt : k < n
    · obtain ⟨gm, o, s, rfl, hs, hat, hget⟩ := (HR.out.below bel).at hlt
      have hsok := HOK.out s hs
      have L1 := hide (fun W => lies_any s px py W hsok HPT.out)
      have HS := hide (lays_succ px py l k hget)
      have HLE := hide (lays_le px py l k)
      clear hget hsok hs HPT
      cases hl : liesW s px py
      all_goals
        rw [hl] at L1 HS
        clear hl
        obtain ⟨ax, ay, bx, b_y, cx, cy, sr, sg, sb, ck⟩ := s
        obtain ⟨c0, c1, c2, c3, c4, c5, c6⟩ := hat
        simp only at L1 HS c0 c1 c2 c3 c4 c5 c6
        go_upto_region 7 with fail
        have nb : Below wr.heap.size wr (wr.alloc (.cells #[.complex .f32 ax ay, .complex .f32 bx b_y, .complex .f32 cx cy, .float .f32 sr, .float .f32 sg, .float .f32 sb, .float .f32 ck] 56)) := (Below.refl _ _).alloc (Nat.le_refl _) _
        have hown := ownsBelowG hown nb
        have s0 : ((wr.alloc (.cells #[.complex .f32 ax ay, .complex .f32 bx b_y, .complex .f32 cx cy, .float .f32 sr, .float .f32 sg, .float .f32 sb, .float .f32 ck] 56))).cell? ⟨wr.heap.size, 0, none⟩ = some (.complex .f32 ax ay) := by go_simp
        have s1 : ((wr.alloc (.cells #[.complex .f32 ax ay, .complex .f32 bx b_y, .complex .f32 cx cy, .float .f32 sr, .float .f32 sg, .float .f32 sb, .float .f32 ck] 56))).cell? ⟨wr.heap.size, 1, none⟩ = some (.complex .f32 bx b_y) := by go_simp
        have s2 : ((wr.alloc (.cells #[.complex .f32 ax ay, .complex .f32 bx b_y, .complex .f32 cx cy, .float .f32 sr, .float .f32 sg, .float .f32 sb, .float .f32 ck] 56))).cell? ⟨wr.heap.size, 2, none⟩ = some (.complex .f32 cx cy) := by go_simp
        have s3 : ((wr.alloc (.cells #[.complex .f32 ax ay, .complex .f32 bx b_y, .complex .f32 cx cy, .float .f32 sr, .float .f32 sg, .float .f32 sb, .float .f32 ck] 56))).cell? ⟨wr.heap.size, 3, none⟩ = some (.float .f32 sr) := by go_simp
        have s4 : ((wr.alloc (.cells #[.complex .f32 ax ay, .complex .f32 bx b_y, .complex .f32 cx cy, .float .f32 sr, .float .f32 sg, .float .f32 sb, .float .f32 ck] 56))).cell? ⟨wr.heap.size, 4, none⟩ = some (.float .f32 sg) := by go_simp
        have s5 : ((wr.alloc (.cells #[.complex .f32 ax ay, .complex .f32 bx b_y, .complex .f32 cx cy, .float .f32 sr, .float .f32 sg, .float .f32 sb, .float .f32 ck] 56))).cell? ⟨wr.heap.size, 5, none⟩ = some (.float .f32 sb) := by go_simp
        have s6 : ((wr.alloc (.cells #[.complex .f32 ax ay, .complex .f32 bx b_y, .complex .f32 cx cy, .float .f32 sr, .float .f32 sg, .float .f32 sb, .float .f32 ck] 56))).cell? ⟨wr.heap.size, 6, none⟩ = some (.float .f32 ck) := by go_simp
        have bel : Below w.heap.size w ((wr.alloc (.cells #[.complex .f32 ax ay, .complex .f32 bx b_y, .complex .f32 cx cy, .float .f32 sr, .float .f32 sg, .float .f32 sb, .float .f32 ck] 56))) := bel.alloc bel.size _
        generalize (wr.alloc (.cells #[.complex .f32 ax ay, .complex .f32 bx b_y, .complex .f32 cx cy, .float .f32 sr, .float .f32 sg, .float .f32 sb, .float .f32 ck] 56)) = wB at s0 s1 s2 s3 s4 s5 s6 hown bel ⊢
        have hswB := bel.size
        clear c0 c1 c2 c3 c4 c5 c6 nb
        go_wp2_with fail
        refine (L1.out _).mono ?_
        rintro e w3 ⟨rfl, nb⟩
        have hown := ownsBelowG hown nb
        have bel := belowOf bel nb
        clear nb s0 s1 s2 s3 s4 s5 s6
      · simp only [if_false, Bool.false_eq_true] at HS
        have hown : w3.ownsRow w.heap.size 3 1 u5 (lays px py l (k + 1)).length (laysV px py l (k + 1)) := by
          unfold laysV
          rw [HS.out]
          exact hown
        go_wp2_with fail
        go_roundw
        case rel => exact ⟨k + 1, by omega, by go_num, hown, bel⟩
        case measure => simp [intOf]; omega
      · simp only [if_true] at HS
        have nb : Below w3.heap.size w3 (w3.alloc (.cells #[.int .i64 (k : Int)] 3)) := (Below.refl _ _).alloc (Nat.le_refl _) _
        have hown := ownsBelowG hown nb
        have bel := belowOf bel nb
        clear nb
        go_wp2_with (at_builtin; refine wpList_append_lies _ rfl _ _ 68 rfl w.heap.size 3 i0 (.int .i64 0) 1 8 Try.underlying68 hi hz0 hz1 hz2 rfl (by decide) _ _ _ rfl hown ⟨w3.heap.size, 0, none⟩ 1 1 [.int .i64 (k : Int)] rfl rfl ?c1 ?c2 (by omega) ?c3 ?c4 ?c5 _ rfl ?_)
        case c1 =>
          intro j u hj
          match j, hj with
          | 0, hj => simp at hj; subst hj; simp only [Addr.add]; go_simp
        case c2 => intro u hu; simp at hu; subst hu; rfl
        case c3 => have := HLE.out; unfold maxLen; omega
        case c4 => have := HLE.out; omega
        case c5 => exact bel.size
        intro g' cap' w5 hown' hgrow hat' _
        have bel := bel.grown hgrow bel.size (fun q hq => (hown.lt q hq).1)
        have hown : w5.ownsRow w.heap.size 3 1 (.slice (some ⟨g', 0, none⟩) ((lays px py l k).length + 1) cap') (lays px py l (k + 1)).length (laysV px py l (k + 1)) := by
          unfold laysV at hown' ⊢
          rw [HS.out]
          simpa using hown'
        clear hown' hgrow hat'
        go_wp2_with fail
        go_roundw
        case rel => exact ⟨k + 1, by omega, by go_num, hown, bel⟩
        case measure => simp [intOf]; omega
    · obtain rfl : k = n := by omega
      go_wp2_with fail
      go_ret
      exact ⟨_, rfl, hown, bel⟩

end Go.Proofs.Ytgafdkaiiajieaa
