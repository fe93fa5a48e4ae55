/- What KeepersOf computes: the symmetries of mirrors that keep the point. Condition: a kind with symmetries, a point. -/
import Derived.Test.YtgafdkaiiajieaaKeepB
namespace Go.Proofs.Ytgafdkaiiajieaa
open Go.RowKit Go.Sort
open Fl

/-- The symmetries that keep a point. -/
def keepL (kind : Int) (x y : Nat) : List (Int × Bool) := (symsOf kind).filter (kpB x y)

def RetKeep (kind : Int) (x y : Nat) (w : World) (e : Ending) (w' : World) : Prop :=
  ∃ g m cap, e = .returned (.slice (some ⟨g, 0, none⟩) m cap) ∧ m = (keepL kind x y).length ∧ (∀ i, i < m → SymAt w' g i ((keepL kind x y).getD i (0, false))) ∧ Below w.heap.size w w'

set_option maxRecDepth 100000 in
set_option maxHeartbeats 2000000 in
theorem keepersOf_any (kind : Int) (x y : Nat) (w : World) (hp : Pt x y) (hpos : 0 < (symsOf kind).length) :
    Calls Try.prog 19 #[.int .i64 kind, .complex .f32 x y] w (RetKeep kind x y w) := by
  have HI := hide (fun W => isPoint_y x y W hp)
  have HS := hide (fun W => symsOf_any kind W)
  have hle := symsOf_le kind
  have hv := hide (fun s (h : s ∈ symsOf kind) => symsOf_win h)
  have HP := hide hp
  unfold RetKeep keepL
  generalize symsOf kind = l at HS hle hv hpos ⊢
  clear hp
  have nb : Below w.heap.size w (w.alloc (.cells #[.complex .f32 x y] 24)) := (Below.refl _ _).alloc (Nat.le_refl _) _
  have c0 : (w.alloc (.cells #[.complex .f32 x y] 24)).cell? ⟨w.heap.size, 0, none⟩ = some (.complex .f32 x y) := by go_simp
  go_enter Try.func19, Try.ntmps19
  go_upto_region 1 with fail
  generalize w.alloc (.cells #[.complex .f32 x y] 24) = wA at nb c0 ⊢
  have hlt : w.heap.size < wA.heap.size := World.block_lt_of_cell? wA _ c0
  go_wp2_with fail
  refine (HI.out _).mono ?_
  rintro e w1 ⟨rfl, rfl⟩
  go_wp2_with fail
  refine (HS.out _).mono ?_
  rintro e w3 ⟨v, rfl, own, hb3⟩
  rcases own.2 with ⟨rfl, h0⟩ | ⟨g, cap, cur, rfl, hg, hgx, hn, hm, hcs, _⟩
  · omega
  · have hR : ReadsS w3 (some ⟨g, 0, none⟩) l.length cap l := ⟨rfl, .inr ⟨g, rfl, hn, hm, fun j hj => own.cellAt j hj⟩⟩
    have hD : RowD l g l.length wA.heap.size w3 w3 0 [] :=
      ⟨Nat.le_refl _, Nat.zero_le _, fun i hi => by simp at hi, fun i _ hi => by
        have h := ReadsS.at (fun j hj => own.cellAt j hj) rfl i hi
        have e : l.getD i (0, false) = l[i] := by simp [List.getD, List.getElem?_eq_getElem hi]
        rw [e]
        exact h, fun c hc => ⟨_, (own.cellAt c hc).trans (List.getElem?_eq_getElem (by rw [symCells_length]; exact hc))⟩, own.frozenAt, Below.refl _ _, hg, hb3.size, (own.lt g rfl).2⟩
    have HX := hide (deleteK_any g l.length cap wA.heap.size l x y w.heap.size w3 hR hD hle hn hm hv.out HP.out (keepc hb3 c0) hlt)
    have bel := belowOf nb hb3
    clear own hgx hcs hR hD HI HS hv HP c0
    unfold RetDel at HX
    generalize l.length = n at HX hle hpos hn ⊢
    go_wp2_with fail
    refine HX.out.mono ?_
    rintro e w4 ⟨m, rfl, h1, h2, h3⟩
    have H1 := hide h1
    have H2 := hide h2
    have bel := bel.trans (h3.mono (Nat.le_of_lt hlt))
    clear h1 h2 h3 HX
    go_wp2_with fail
    go_ret
    exact ⟨g, m, cap, rfl, H1.out, H2.out, bel⟩

end Go.Proofs.Ytgafdkaiiajieaa
