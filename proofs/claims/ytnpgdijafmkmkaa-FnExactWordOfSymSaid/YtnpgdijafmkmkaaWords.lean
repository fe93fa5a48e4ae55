/- Rows of rows in memory: a list of words that a call has made; copies of words. No condition. -/
import Derived.Test.YtnpgdijafmkmkaaBfsP
import Derived.Laws.AppendOwnNone
namespace Go.Proofs.Ytnpgdijafmkmkaa
open Go.RowKit

theorem infoPartsW {P : Program} {t : TypeId} {z : Value} {s b : Nat} (h : (P.info? t).map (fun i => (i.zero, i.size, i.bytes)) = some (some z, s, b)) :
    ∃ i, P.info? t = some i ∧ i.zero = some z ∧ i.size = s ∧ i.bytes = b := by
  cases hi : P.info? t with
  | none => simp [hi] at h
  | some i => simp [hi] at h; exact ⟨i, rfl, h.1, h.2.1, h.2.2⟩

theorem Try.infoWord : (Try.prog.info? 42).map (fun i => (i.zero, i.size, i.bytes)) = some (some (.slice none 0 0), 1, 24) := by kernel_rfl

/-- A word in memory of the call's own. -/
def OwnW (base : Nat) (w : World) (v : Value) (u : List Int) : Prop := w.ownsRow base 3 1 v u.length (u.map (Value.int .i64))

theorem ownsBelowW {wA W : World} {base : Nat} {E : TypeId} {size : Nat} {v : Value} {n : Nat} {xs : List Value} (h : wA.ownsRow base E size v n xs) (k : Below wA.heap.size wA W) : W.ownsRow base E size v n xs := by
  obtain ⟨h1, h2⟩ := h
  refine ⟨h1, ?_⟩
  rcases h2 with h2 | ⟨g, cap, cur, rfl, hb, hg, hr⟩
  · exact .inl h2
  · refine .inr ⟨g, cap, cur, rfl, hb, ?_, hr⟩
    have hlt : g < wA.heap.size := by
      rcases Nat.lt_or_ge g wA.heap.size with hlt | hge
      · exact hlt
      · rw [Array.getElem?_eq_none hge] at hg; cases hg
    rw [k.block g hlt]; exact hg

theorem ownsBaseW {w : World} {base base' : Nat} {E : TypeId} {size : Nat} {v : Value} {n : Nat} {xs : List Value} (h : w.ownsRow base E size v n xs) (k : base' ≤ base) : w.ownsRow base' E size v n xs := by
  obtain ⟨h1, h2⟩ := h
  refine ⟨h1, ?_⟩
  rcases h2 with h2 | ⟨g, cap, cur, rfl, hb, hg, hr⟩
  · exact .inl h2
  · exact .inr ⟨g, cap, cur, rfl, by omega, hg, hr⟩

/-- Rows of two types lie in two blocks. -/
theorem rows_apart {w : World} {base base' : Nat} {E E' : TypeId} {s s' n n' : Nat} {v v' : Value} {xs xs' : List Value} (h : w.ownsRow base E s v n xs) (h' : w.ownsRow base' E' s' v' n' xs') (hne : E ≠ E') :
    v.ownBlock = none ∨ v.ownBlock ≠ v'.ownBlock := by
  rcases h.2 with ⟨rfl, _⟩ | ⟨g, cap, cur, rfl, hb, hg, _⟩
  · exact .inl rfl
  · right
    rcases h'.2 with ⟨rfl, _⟩ | ⟨g', cap', cur', rfl, hb', hg', _⟩
    · simp [Value.ownBlock]
    · intro e
      have : g = g' := by simpa [Value.ownBlock] using e
      subst this
      rw [hg] at hg'
      cases hg'
      exact hne rfl

/-- A list of words in memory of the call's own. -/
def OwnWs (base : Nat) (w : World) (v : Value) (ws : List (List Int)) : Prop :=
  ∃ vs : List Value, vs.length = ws.length ∧ w.ownsRow base 42 1 v ws.length vs ∧ ∀ (i : Nat) (u : List Int), ws[i]? = some u → ∃ x, vs[i]? = some x ∧ OwnW base w x u

theorem OwnWs.below {base : Nat} {w W : World} {v : Value} {ws : List (List Int)} (h : OwnWs base w v ws) (k : Below w.heap.size w W) : OwnWs base W v ws := by
  obtain ⟨vs, h0, h1, h2⟩ := h
  refine ⟨vs, h0, ownsBelowW h1 k, fun i u hu => ?_⟩
  obtain ⟨x, hx, ho⟩ := h2 i u hu
  exact ⟨x, hx, ownsBelowW ho k⟩

theorem OwnWs.base {base base' : Nat} {w : World} {v : Value} {ws : List (List Int)} (h : OwnWs base w v ws) (k : base' ≤ base) : OwnWs base' w v ws := by
  obtain ⟨vs, h0, h1, h2⟩ := h
  refine ⟨vs, h0, ownsBaseW h1 k, fun i u hu => ?_⟩
  obtain ⟨x, hx, ho⟩ := h2 i u hu
  exact ⟨x, hx, ownsBaseW ho k⟩

/-- A word more at the end. -/
theorem OwnWs.snoc {base : Nat} {w W : World} {v v' x : Value} {vs : List Value} {ws : List (List Int)} {u : List Int} (h0 : vs.length = ws.length) (h1 : w.ownsRow base 42 1 v ws.length vs)
    (h2 : ∀ (i : Nat) (u : List Int), ws[i]? = some u → ∃ x, vs[i]? = some x ∧ OwnW base w x u) (hx : OwnW base w x u)
    (hn : W.ownsRow base 42 1 v' (ws.length + 1) (vs ++ [x])) (hg : w.grownBy W v.ownBlock) : OwnWs base W v' (ws ++ [u]) := by
  have keep : ∀ {y : Value} {u' : List Int}, OwnW base w y u' → OwnW base W y u' := fun {y u'} hy => ownsKept2 hy hg (rows_apart hy h1 (by decide))
  refine ⟨vs ++ [x], by simp [h0], by simpa using hn, fun i u' hu => ?_⟩
  by_cases hi : i < ws.length
  · rw [List.getElem?_append_left hi] at hu
    obtain ⟨y, hy, ho⟩ := h2 i u' hu
    exact ⟨y, by rw [List.getElem?_append_left (by omega)]; exact hy, keep ho⟩
  · rw [List.getElem?_append_right (by omega)] at hu
    have hi0 : i - ws.length = 0 := by
      rcases Nat.eq_zero_or_pos (i - ws.length) with h | h
      · exact h
      · rw [List.getElem?_eq_none (by simp; omega)] at hu; cases hu
    rw [hi0] at hu
    simp at hu
    subst hu
    exact ⟨x, by rw [List.getElem?_append_right (by omega), show i - vs.length = 0 by omega]; rfl, keep hx⟩

/-- The element at place i: its cell and its word. -/
theorem OwnWs.at {base : Nat} {w : World} {v : Value} {ws : List (List Int)} (h : OwnWs base w v ws) : ∃ a cap, v = .slice a ws.length cap ∧ ∀ (i : Nat) (u : List Int), ws[i]? = some u → ∃ g x, a = some ⟨g, 0, none⟩ ∧ w.cell? ⟨g, i, none⟩ = some x ∧ OwnW base w x u := by
  obtain ⟨vs, h0, h1, h2⟩ := h
  rcases h1.2 with ⟨rfl, hz⟩ | ⟨g, cap, cur, rfl, hb, hg, hn, hm, _, _⟩
  · refine ⟨none, 0, by rw [hz], fun i u hu => ?_⟩
    have := (List.getElem?_eq_some_iff.1 hu).1
    omega
  · refine ⟨_, cap, rfl, fun i u hu => ?_⟩
    have hi := (List.getElem?_eq_some_iff.1 hu).1
    obtain ⟨x, hx, ho⟩ := h2 i u hu
    exact ⟨g, x, rfl, (h1.cellAt i (by omega)).trans hx, ho⟩

/-- What a copy of a word is. -/
def RetCopy (w : World) (u : List Int) (e : Ending) (w' : World) : Prop := ∃ v, e = .returned v ∧ OwnW w.heap.size w' v u ∧ Below w.heap.size w w'

set_option maxRecDepth 100000 in
set_option maxHeartbeats 2000000 in
theorem l1Ints_any (w : World) (base : Nat) (v : Value) (u : List Int) (h : OwnW base w v u) (hu : u.length ≤ 1000) :
    Calls Try.prog 60 #[v] w (RetCopy w u) := by
  obtain ⟨i0, hi, hz0, hz1, hz2⟩ := infoPartsW Try.infoInt
  have h0 : (w.alloc (.cells #[] 3)).ownsRow w.heap.size 3 1 (.slice (some ⟨w.heap.size, 0, none⟩) 0 0) 0 [] := World.ownsRow_lit w #[] 0 (Nat.le_refl _) (by unfold maxLen; omega) rfl
  have nb : Below w.heap.size w (w.alloc (.cells #[] 3)) := (Below.refl _ _).alloc (Nat.le_refl _) _
  have hv := ownsBelowW h nb
  rcases h.2 with ⟨rfl, hz⟩ | ⟨g, cap, cur, rfl, hb, hg, hn, hm, hcz, hct⟩
  · have hu0 : u = [] := List.eq_nil_of_length_eq_zero hz
    subst hu0
    clear h hv
    go_enter Try.func60, Try.ntmps60
    go_wp2_with (at_builtin; refine wpList_append_own_none rfl _ _ 42 rfl w.heap.size 3 i0 1 Try.underlying42 hi _ _ _ rfl h0 rfl ?_)
    go_wp2_with fail
    go_ret
    exact ⟨_, rfl, h0, nb⟩
  · have hcells : ∀ j x, (u.map (Value.int .i64))[j]? = some x → (w.alloc (.cells #[] 3)).cell? (Addr.add ⟨g, 0, none⟩ j) = some x := fun j x hj => by
      have hj2 : j < u.length := by have := (List.getElem?_eq_some_iff.1 hj).1; simpa using this
      have e := hv.cellAt j (by omega)
      rw [hj] at e
      rcases Nat.eq_zero_or_pos j with rfl | hp
      · simpa [Addr.add] using e
      · simpa [Addr.add, Nat.ne_of_gt hp] using e
    clear h hg hcz hct hv
    have HCE := hide hcells
    clear hcells
    go_enter Try.func60, Try.ntmps60
    go_wp2_with (at_builtin; refine wpList_append_own _ rfl _ _ 42 rfl w.heap.size 3 i0 (.int .i64 0) 1 8 Try.underlying42 hi hz0 hz1 hz2 rfl (by decide) _ _ _ rfl h0 ⟨g, 0, none⟩ u.length cap (u.map (Value.int .i64)) rfl ?c0 HCE.out ?c2 ?c3 ?c4 ?c5 ?_)
    case c0 => simp
    case c2 => intro x hx; obtain ⟨y, _, rfl⟩ := List.mem_map.1 hx; rfl
    case c3 => unfold maxLen; omega
    case c4 => omega
    case c5 => exact nb.size
    intro v' w1 hown' hgrow _
    have hb1 := nb.grown hgrow nb.size (fun q hq => (h0.lt q hq).1)
    have hO : OwnW w.heap.size w1 v' u := by
      unfold OwnW
      simpa using hown'
    clear hown' hgrow HCE
    go_wp2_with fail
    go_ret
    exact ⟨v', rfl, hO, hb1⟩

set_option maxRecDepth 100000 in
set_option maxHeartbeats 2000000 in
theorem clone_any (w : World) (base : Nat) (v : Value) (u : List Int) (h : OwnW base w v u) (hu : u.length ≤ 1000) :
    Calls Try.prog 59 #[v] w (RetCopy w u) := by
  obtain ⟨i0, hi, hz0, hz1, hz2⟩ := infoPartsW Try.infoInt
  have q22 : ∀ (w : World) (a : Option Addr) (n c n' c' : Nat), (binOp .eql 42 (.slice a n c) (.slice none n' c')).run Try.prog w = .ok (.bool a.isNone) w := fun w a n c n' c' => Lib.run_eql_slice_nil w _ _ a n c n' c' Try.underlying42
  have h0 : (w.alloc (.cells #[] 3)).ownsRow w.heap.size 3 1 (.slice (some ⟨w.heap.size, 0, none⟩) 0 0) 0 [] := World.ownsRow_lit w #[] 0 (Nat.le_refl _) (by unfold maxLen; omega) rfl
  have nb : Below w.heap.size w (w.alloc (.cells #[] 3)) := (Below.refl _ _).alloc (Nat.le_refl _) _
  have hv := ownsBelowW h nb
  rcases h.2 with ⟨rfl, hz⟩ | ⟨g, cap, cur, rfl, hb, hg, hn, hm, hcz, hct⟩
  · have hu0 : u = [] := List.eq_nil_of_length_eq_zero hz
    subst hu0
    have hO : OwnW w.heap.size w (.slice none 0 0) [] := ⟨rfl, .inl ⟨rfl, rfl⟩⟩
    clear h hv h0 nb
    go_enter Try.func59, Try.ntmps59
    go_wp2_with fail
    go_ret
    exact ⟨_, rfl, hO, Below.refl _ _⟩
  · have hcells : ∀ j x, (u.map (Value.int .i64))[j]? = some x → (w.alloc (.cells #[] 3)).cell? (Addr.add ⟨g, 0, none⟩ j) = some x := fun j x hj => by
      have hj2 : j < u.length := by have := (List.getElem?_eq_some_iff.1 hj).1; simpa using this
      have e := hv.cellAt j (by omega)
      rw [hj] at e
      rcases Nat.eq_zero_or_pos j with rfl | hp
      · simpa [Addr.add] using e
      · simpa [Addr.add, Nat.ne_of_gt hp] using e
    clear h hg hcz hct hv
    have HCE := hide hcells
    clear hcells
    go_enter Try.func59, Try.ntmps59
    go_wp2_with (at_builtin; refine wpList_append_own _ rfl _ _ 42 rfl w.heap.size 3 i0 (.int .i64 0) 1 8 Try.underlying42 hi hz0 hz1 hz2 rfl (by decide) _ _ _ rfl h0 ⟨g, 0, none⟩ u.length cap (u.map (Value.int .i64)) rfl ?c0 HCE.out ?c2 ?c3 ?c4 ?c5 ?_)
    case c0 => simp
    case c2 => intro x hx; obtain ⟨y, _, rfl⟩ := List.mem_map.1 hx; rfl
    case c3 => unfold maxLen; omega
    case c4 => omega
    case c5 => exact nb.size
    intro v' w1 hown' hgrow _
    have hb1 := nb.grown hgrow nb.size (fun q hq => (h0.lt q hq).1)
    have hO : OwnW w.heap.size w1 v' u := by
      unfold OwnW
      simpa using hown'
    clear hown' hgrow HCE
    go_wp2_with fail
    go_ret
    exact ⟨v', rfl, hO, hb1⟩

end Go.Proofs.Ytnpgdijafmkmkaa
