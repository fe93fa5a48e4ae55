/- Plain facts on lists of symmetries as rows of cells. No condition. -/
import Derived.Test.YtgafdkaiiajieaaBase
namespace Go.Proofs.Ytgafdkaiiajieaa
open Go.RowKit

theorem infoParts {P : Program} {t : TypeId} {z : Value} {s b : Nat} (h : (P.info? t).map (fun i => (i.zero, i.size, i.bytes)) = some (some z, s, b)) :
    ∃ i, P.info? t = some i ∧ i.zero = some z ∧ i.size = s ∧ i.bytes = b := by
  cases hi : P.info? t with
  | none => simp [hi] at h
  | some i => simp [hi] at h; exact ⟨i, rfl, h.1, h.2.1, h.2.2⟩

/-- The cells of a list of symmetries. -/
def symCells (l : List (Int × Bool)) : List Value := l.flatMap fun s => [.int .i64 s.1, .bool s.2]

theorem symCells_append (l m : List (Int × Bool)) : symCells (l ++ m) = symCells l ++ symCells m := by simp [symCells]

theorem symCells_length (l : List (Int × Bool)) : (symCells l).length = l.length * 2 := by
  induction l with
  | nil => rfl
  | cons a l ih => simp [symCells] at ih ⊢; omega

theorem symCells_at (l : List (Int × Bool)) (k : Nat) (h : k < l.length) : (symCells l)[k * 2]? = some (.int .i64 l[k].1) ∧ (symCells l)[k * 2 + 1]? = some (.bool l[k].2) := by
  induction l generalizing k with
  | nil => simp at h
  | cons a l ih =>
    cases k with
    | zero => simp [symCells]
    | succ k =>
      have := ih k (by simpa using h)
      simp only [symCells, List.flatMap_cons, List.getElem_cons_succ] at this ⊢
      rw [show (k + 1) * 2 = k * 2 + 1 + 1 by omega]
      simpa using this

/-- A slice of symmetries in new memory. -/
def RetSyms (w : World) (l : List (Int × Bool)) (e : Ending) (w' : World) : Prop :=
  ∃ v, e = .returned v ∧ w'.ownsRow w.heap.size 28 2 v l.length (symCells l) ∧ Below w.heap.size w w'

/-- The first k of the eight symmetries, in order. -/
def allSyms (k : Nat) : List (Int × Bool) := (List.range k).map fun (i : Nat) => ((i : Int) % 4, decide (4 ≤ i))

theorem allSyms_succ (k : Nat) : allSyms (k + 1) = allSyms k ++ [((k : Int) % 4, decide (4 ≤ k))] := by
  simp [allSyms, List.range_succ]

theorem allSyms_at (k : Nat) (h : k < 8) : (symCells (allSyms 8))[k * 2]? = some (.int .i64 ((k : Int) % 4)) ∧ (symCells (allSyms 8))[k * 2 + 1]? = some (.bool (decide (4 ≤ k))) := by
  have := symCells_at (allSyms 8) k (by simpa [allSyms] using h)
  simpa [allSyms] using this

theorem allSyms_length (k : Nat) : (allSyms k).length = k := by simp [allSyms]

/-- Is a symmetry one of mirrors of a kind? -/
def ofKind (kind t : Int) (f : Bool) : Bool :=
  if kind = 0 then t == 0 && f == false else if kind = 1 then t == 0 else if kind = 2 then t % 2 == 0 else kind == 3

/-- The symmetries of mirrors of a kind, in order. -/
def symsOf (kind : Int) : List (Int × Bool) := if win kind 0 3 then (allSyms 8).filter fun s => ofKind kind s.1 s.2 else []

/-- An owned row stays owned where nothing old is changed. -/
theorem ownsBelow {wA W : World} {base : Nat} {E : TypeId} {size : Nat} {v : Value} {n : Nat} {xs : List Value} (h : wA.ownsRow base E size v n xs) (k : Below wA.heap.size wA W) : W.ownsRow base E size v n xs := by
  obtain ⟨h1, h2⟩ := h
  refine ⟨h1, ?_⟩
  rcases h2 with h2 | ⟨g, cap, cur, rfl, hb, hg, hr⟩
  · exact .inl h2
  · refine .inr ⟨g, cap, cur, rfl, hb, ?_, hr⟩
    have hlt : g < wA.heap.size := by
      rcases Nat.lt_or_ge g wA.heap.size with hlt | hge
      · exact hlt
      · rw [Array.getElem?_eq_none hge] at hg; cases hg
    rw [k.block g hlt]; exact hg

/-- The symmetries of mirrors of a kind among the first k. -/
def someSyms (kind : Int) (k : Nat) : List (Int × Bool) := (allSyms k).filter fun s => win kind 0 3 && ofKind kind s.1 s.2

theorem someSyms_succ (kind : Int) (k : Nat) : someSyms kind (k + 1) = someSyms kind k ++ (if win kind 0 3 && ofKind kind ((k : Int) % 4) (decide (4 ≤ k)) then [((k : Int) % 4, decide (4 ≤ k))] else []) := by
  unfold someSyms
  rw [allSyms_succ, List.filter_append]
  congr 1
  simp only [List.filter_cons, List.filter_nil]

theorem someSyms_all (kind : Int) : someSyms kind 8 = symsOf kind := by
  unfold someSyms symsOf
  cases win kind 0 3 <;> simp

theorem someSyms_le (kind : Int) (k : Nat) : (someSyms kind k).length ≤ k := by
  have := List.length_filter_le (fun s : Int × Bool => win kind 0 3 && ofKind kind s.1 s.2) (allSyms k)
  rw [allSyms_length] at this
  exact this

/-- What holds at a round's head of SymsOf: L is the row that the rounds read. -/
structure OfInv (w : World) (g : Nat) (L : List Value) (kind : Int) (v : Value) (k : Nat) (wr : World) : Prop where
  own : wr.ownsRow w.heap.size 28 2 v (someSyms kind k).length (symCells (someSyms kind k))
  all : ∀ j, j < L.length → wr.cell? ⟨g, j, none⟩ = L[j]?
  ne : v.ownBlock ≠ some g
  glt : g < wr.heap.size
  bel : Below w.heap.size w wr

theorem OfInv.below {w : World} {g : Nat} {L : List Value} {kind : Int} {v : Value} {k : Nat} {wr W : World} (h : OfInv w g L kind v k wr) (hb : Below wr.heap.size wr W) : OfInv w g L kind v k W :=
  ⟨ownsBelow h.own hb, fun j hj => (hb.cell (p := ⟨g, j, none⟩) h.glt).trans (h.all j hj), h.ne, Nat.lt_of_lt_of_le h.glt hb.size, h.bel.trans (hb.mono h.bel.size)⟩

theorem OfInv.skip {w : World} {g : Nat} {L : List Value} {kind : Int} {v : Value} {k : Nat} {wr : World} (h : OfInv w g L kind v k wr) (hc : (win kind 0 3 && ofKind kind ((k : Int) % 4) (decide (4 ≤ k))) = false) : OfInv w g L kind v (k + 1) wr := by
  have e : someSyms kind (k + 1) = someSyms kind k := by rw [someSyms_succ, hc]; simp
  exact ⟨by rw [e]; exact h.own, h.all, h.ne, h.glt, h.bel⟩

theorem OfInv.add {w : World} {g : Nat} {L : List Value} {kind : Int} {v : Value} {k : Nat} {wr W : World} {g' cap n : Nat} (h : OfInv w g L kind v k wr) (hc : (win kind 0 3 && ofKind kind ((k : Int) % 4) (decide (4 ≤ k))) = true)
    (hn : n = (someSyms kind k).length + 1)
    (hown : W.ownsRow w.heap.size 28 2 (.slice (some ⟨g', 0, none⟩) n cap) n (symCells (someSyms kind k) ++ [.int .i64 ((k : Int) % 4), .bool (decide (4 ≤ k))]))
    (hgrow : wr.grownBy W v.ownBlock) (hat : v.ownBlock = some g' ∨ g' = wr.heap.size) : OfInv w g L kind (.slice (some ⟨g', 0, none⟩) n cap) (k + 1) W := by
  have e : someSyms kind (k + 1) = someSyms kind k ++ [((k : Int) % 4, decide (4 ≤ k))] := by rw [someSyms_succ, hc]; simp
  refine ⟨?_, fun j hj => ?_, ?_, Nat.lt_of_lt_of_le h.glt hgrow.size, ?_⟩
  · subst hn
    rw [e, symCells_append, List.length_append]
    exact hown
  · rw [← h.all j hj]
    exact World.cell?_of_block (hgrow.block g h.glt (fun q => h.ne q.symm))
  · rcases hat with hat | hat
    · exact fun q => h.ne (hat.trans q)
    · have := h.glt
      simp [Value.ownBlock]; omega
  · exact h.bel.grown hgrow h.bel.size (fun q hq => (h.own.lt q hq).1)

end Go.Proofs.Ytgafdkaiiajieaa
