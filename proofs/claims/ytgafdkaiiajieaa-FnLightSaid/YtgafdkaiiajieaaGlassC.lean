/- What the reference draws for glass: shards, a point near them, and light. Condition: the code is a slice of bytes that can be read. -/
import Derived.Test.YtgafdkaiiajieaaGlassB
import Derived.Deep.AppendLies
namespace Go.Proofs.Ytgafdkaiiajieaa
open Go.RowKit
open Fl

theorem infoPartsG {P : Program} {t : TypeId} {z : Value} {s b : Nat} (h : (P.info? t).map (fun i => (i.zero, i.size, i.bytes)) = some (some z, s, b)) :
    ∃ i, P.info? t = some i ∧ i.zero = some z ∧ i.size = s ∧ i.bytes = b := by
  cases hi : P.info? t with
  | none => simp [hi] at h
  | some i => simp [hi] at h; exact ⟨i, rfl, h.1, h.2.1, h.2.2⟩

theorem Try.infoShard : (Try.prog.info? 56).map (fun i => (i.zero, i.size, i.bytes)) = some (some (.agg #[.complex .f32 0 0, .complex .f32 0 0, .complex .f32 0 0, .float .f32 0, .float .f32 0, .float .f32 0, .float .f32 0]), 7, 40) := by kernel_rfl

theorem ownsKeptG {wA W : World} {base : Nat} {E : TypeId} {size p : Nat} {v : Value} {n : Nat} {xs : List Value} (h : wA.ownsRow base E size v n xs) (k : wA.grownBy W (some p)) (hne : v.ownBlock ≠ some p) : W.ownsRow base E size v n xs := by
  obtain ⟨h1, h2⟩ := h
  refine ⟨h1, ?_⟩
  rcases h2 with h2 | ⟨g, cap, cur, rfl, hb, hg, hr⟩
  · exact .inl h2
  · refine .inr ⟨g, cap, cur, rfl, hb, ?_, hr⟩
    have hlt : g < wA.heap.size := by
      rcases Nat.lt_or_ge g wA.heap.size with hlt | hge
      · exact hlt
      · rw [Array.getElem?_eq_none hge] at hg; cases hg
    rw [k.block g hlt (fun e => hne (by rw [← e]; rfl))]; exact hg

theorem ownsBelowG {wA W : World} {base : Nat} {E : TypeId} {size : Nat} {v : Value} {n : Nat} {xs : List Value} (h : wA.ownsRow base E size v n xs) (k : Below wA.heap.size wA W) : W.ownsRow base E size v n xs := by
  obtain ⟨h1, h2⟩ := h
  refine ⟨h1, ?_⟩
  rcases h2 with h2 | ⟨g, cap, cur, rfl, hb, hg, hr⟩
  · exact .inl h2
  · refine .inr ⟨g, cap, cur, rfl, hb, ?_, hr⟩
    have hlt : g < wA.heap.size := by
      rcases Nat.lt_or_ge g wA.heap.size with hlt | hge
      · exact hlt
      · rw [Array.getElem?_eq_none hge] at hg; cases hg
    rw [k.block g hlt]; exact hg

theorem ownsBase {w : World} {base base' : Nat} {E : TypeId} {size : Nat} {v : Value} {n : Nat} {xs : List Value} (h : w.ownsRow base E size v n xs) (k : base' ≤ base) : w.ownsRow base' E size v n xs := by
  obtain ⟨h1, h2⟩ := h
  refine ⟨h1, ?_⟩
  rcases h2 with h2 | ⟨g, cap, cur, rfl, hb, hg, hr⟩
  · exact .inl h2
  · exact .inr ⟨g, cap, cur, rfl, by omega, hg, hr⟩

theorem grown_fresh {w wr W : World} {p : Nat} {r : Option Nat} (h : w.grownBy wr (some p)) (k : wr.grownBy W r) (hr : ∀ q, r = some q → w.heap.size ≤ q) : w.grownBy W (some p) :=
  ⟨k.os.trans h.os, k.tape.trans h.tape, k.output.trans h.output, Nat.le_trans h.size k.size, fun i hi hne => (k.block i (Nat.lt_of_lt_of_le hi h.size) (fun e => by have := hr i e.symm; omega)).trans (h.block i hi hne)⟩

theorem CurAt.grownG {w0 w W : World} {p : Nat} {a : Option Addr} {len cap : Nat} {r : Option Nat} (c : CurAt w0 w p a len cap) (g : w.grownBy W r) (hne : r ≠ some p) (hr : ∀ q, r = some q → w0.heap.size ≤ q) : CurAt w0 W p a len cap := by
  obtain ⟨k, hk, hi⟩ := c.i
  obtain ⟨H, hh⟩ := c.h
  have hp := World.block_lt_of_cell? w _ hh
  have hb : W.heap[p]? = w.heap[p]? := g.block p hp (fun e => hne e.symm)
  have hc : ∀ j, W.cell? ⟨p, j, none⟩ = w.cell? ⟨p, j, none⟩ := fun j => World.cell?_of_block (a := ⟨p, j, none⟩) hb
  exact ⟨c.code, c.bel.grown g c.bel.size hr, c.lo, (hc 0).trans c.b, ⟨k, hk, (hc 1).trans hi⟩, ⟨H, (hc 2).trans hh⟩, fun j => (World.frozen?_of_block (a := ⟨p, j, none⟩) hb).trans (c.free j)⟩

/-- What holds at a round's head of l3List. -/
structure GInv (w0 w : World) (p : Nat) (a : Option Addr) (len cap : Nat) (x : Value) (l : List Shd) (wr : World) : Prop where
  cur : CurAt w0 wr p a len cap
  own : wr.ownsRow w.heap.size 56 7 x l.length (shsCells l)
  xp : x.ownBlock ≠ some p
  gg : w.grownBy wr (some p)

theorem GInv.draw {w0 w : World} {p : Nat} {a : Option Addr} {len cap : Nat} {x : Value} {l : List Shd} {wr W : World} (h : GInv w0 w p a len cap x l wr) (c : CurAt w0 W p a len cap) (g : wr.grownBy W (some p)) : GInv w0 w p a len cap x l W :=
  ⟨c, ownsKeptG h.own g h.xp, h.xp, grown_trans h.gg g⟩

theorem GInv.below {w0 w : World} {p : Nat} {a : Option Addr} {len cap : Nat} {x : Value} {l : List Shd} {wr W : World} (h : GInv w0 w p a len cap x l wr) (b : Below wr.heap.size wr W) : GInv w0 w p a len cap x l W :=
  ⟨h.cur.below b, ownsBelowG h.own b, h.xp, grown_trans h.gg (grown_below b)⟩

theorem GInv.add {w0 w : World} {p : Nat} {a : Option Addr} {len cap : Nat} {x : Value} {l : List Shd} {wr W : World} {g' c' n : Nat} {s : Shd} (h : GInv w0 w p a len cap x l wr) (hw : w0.heap.size ≤ w.heap.size) (hn : n = l.length + 1)
    (hown : W.ownsRow w.heap.size 56 7 (.slice (some ⟨g', 0, none⟩) n c') n (shsCells l ++ shCells s)) (hgrow : wr.grownBy W x.ownBlock) (hat : x.ownBlock = some g' ∨ g' = wr.heap.size) :
    GInv w0 w p a len cap (.slice (some ⟨g', 0, none⟩) n c') (l ++ [s]) W := by
  obtain ⟨H, hh⟩ := h.cur.h
  have hp := World.block_lt_of_cell? wr _ hh
  subst hn
  refine ⟨h.cur.grownG hgrow h.xp (fun q hq => Nat.le_trans hw (h.own.lt q hq).1), ?_, ?_, grown_fresh h.gg hgrow (fun q hq => (h.own.lt q hq).1)⟩
  · rw [List.length_append, shsCells_append]
    simpa [shsCells] using hown
  · rcases hat with hat | hat
    · exact fun e => h.xp (hat.trans e)
    · intro e
      have : g' = p := by simpa [Value.ownBlock] using e
      have hp' : p < wr.heap.size := hp
      omega

/-- At most six valid shards, in new memory. -/
def RetList (w0 w : World) (p : Nat) (a : Option Addr) (len cap : Nat) (e : Ending) (w' : World) : Prop :=
  ∃ (x : Value) (l : List Shd), e = .returned x ∧ l.length ≤ 6 ∧ (∀ s ∈ l, ShOk s) ∧ GInv w0 w p a len cap x l w'

theorem shok_snoc {l : List Shd} {s : Shd} (h : ∀ t ∈ l, ShOk t) (hs : ShOk s) : ∀ t ∈ l ++ [s], ShOk t := by
  intro t ht
  rcases List.mem_append.1 ht with ht | ht
  · exact h t ht
  · rw [List.mem_singleton.1 ht]; exact hs

set_option maxRecDepth 100000 in
set_option maxHeartbeats 4000000 in
theorem l3List_any (w0 w : World) (p : Nat) (a : Option Addr) (len cap : Nat) (c : CurAt w0 w p a len cap) :
    Calls Try.prog 62 #[.pointer (some ⟨p, 0, none⟩), .int .i64 6] w (RetList w0 w p a len cap) := by
  obtain ⟨i0, hi, hz0, hz1, hz2⟩ := infoPartsG Try.infoShard
  have hw := c.bel.size
  have hp : p < w.heap.size := by
    obtain ⟨H, hh⟩ := c.h
    exact World.block_lt_of_cell? w _ hh
  go_enter Try.func62, Try.ntmps62
  go_wp2_with fail
  have hd : GInv w0 w p a len cap (.slice (some ⟨w.heap.size, 0, none⟩) 0 0) [] (w.alloc (.cells #[] 56)) :=
    ⟨c.below ((Below.refl _ _).alloc (Nat.le_refl _) _), World.ownsRow_lit w #[] 0 (Nat.le_refl _) (by unfold maxLen; omega) rfl, by simp [Value.ownBlock]; omega, grown_below ((Below.refl _ _).alloc (Nat.le_refl _) _)⟩
  refine (l1Below_any w0 _ p a len cap 7 hd.cur (by omega) (by omega)).mono ?_
  rintro e w2 ⟨m, rfl, m0, m1, c2, g2⟩
  have hd2 := hd.draw c2 g2
  clear hd c2 g2 c
  obtain ⟨m, rfl⟩ := Int.eq_ofNat_of_zero_le m0
  generalize (Value.slice (some ⟨w.heap.size, 0, none⟩) 0 0) = X at hd2 ⊢
  go_wp2_with fail
  go_loopw [5, 6] (fun x i wr => ∃ (q : Nat) (l : List Shd), i = .int .i64 q ∧ q + l.length ≤ 6 ∧ Hid (∀ s ∈ l, ShOk s) ∧ GInv w0 w p a len cap x l wr) (fun _ i _ => (intOf i).toNat)
  case atStart => exact ⟨_, [], rfl, by simp; omega, fun s hs => (by simp at hs), hd2⟩
  case round =>
    clear hd2
    obtain ⟨q, l, rfl, hq, hl, hd⟩ := hrel
    cases q with
    | succ q =>
      have hgt : decide (((q + 1 : Nat) : Int) > 0) = true := decide_eq_true (by omega)
      have hp1 : (0 : Int) < (q : Int) + 1 := by omega
      go_wp2_with fail
      refine (l3Draw_any w0 _ p a len cap hd.cur).mono ?_
      rintro e w4 ⟨s, rfl, hs, c4, g4⟩
      have hd4 := hd.draw c4 g4
      have hd5 := hd4.below ((Below.refl w4.heap.size w4).alloc (Nat.le_refl _) (.cells #[.complex .f32 s.ax s.ay, .complex .f32 s.bx s.b_y, .complex .f32 s.cx s.cy, .float .f32 s.r, .float .f32 s.g, .float .f32 s.b, .float .f32 s.k] 56))
      have HLS := hide (shok_snoc hl.out hs)
      clear hd c4 g4 hd4 hl hs
      go_wp2_with (at_builtin; refine wpList_append_lies _ rfl _ _ 52 rfl w.heap.size 56 i0 (.agg #[.complex .f32 0 0, .complex .f32 0 0, .complex .f32 0 0, .float .f32 0, .float .f32 0, .float .f32 0, .float .f32 0]) 7 40 Try.underlying52 hi hz0 hz1 hz2 rfl (by decide) _ _ _ rfl hd5.own ⟨w4.heap.size, 0, none⟩ 1 1 (shCells s) rfl rfl ?c1 ?c2 (by omega) ?c3 ?c4 ?c5 _ rfl ?_)
      case c1 =>
        intro j u hj
        have hj7 : j < 7 := by
          rcases Nat.lt_or_ge j 7 with h | h
          · exact h
          · rw [List.getElem?_eq_none (by exact h)] at hj; cases hj
        match j, hj7, hj with
        | 0, _, hj => simp [shCells] at hj; subst hj; simp only [Addr.add]; go_simp
        | 1, _, hj => simp [shCells] at hj; subst hj; simp only [Addr.add]; go_simp
        | 2, _, hj => simp [shCells] at hj; subst hj; simp only [Addr.add]; go_simp
        | 3, _, hj => simp [shCells] at hj; subst hj; simp only [Addr.add]; go_simp
        | 4, _, hj => simp [shCells] at hj; subst hj; simp only [Addr.add]; go_simp
        | 5, _, hj => simp [shCells] at hj; subst hj; simp only [Addr.add]; go_simp
        | 6, _, hj => simp [shCells] at hj; subst hj; simp only [Addr.add]; go_simp
      case c2 => intro u hu; simp [shCells] at hu; rcases hu with rfl | rfl | rfl | rfl | rfl | rfl | rfl <;> rfl
      case c3 => unfold maxLen; omega
      case c4 => omega
      case c5 => exact hd5.gg.size
      intro g' cap' w5 hown' hgrow hat _
      have hn := hd5.add hw rfl hown' hgrow (by simpa using hat)
      clear hown' hgrow hat hd5
      go_wp2_with fail
      go_roundw
      case rel => exact ⟨q, l ++ [s], by first | rfl | (congr 1; omega), by simp; omega, HLS, hn⟩
      case measure => first | (simp [intOf]; done) | (simp [intOf]; omega)
    | zero =>
      have hz00 : decide (((0 : Nat) : Int) > 0) = false := rfl
      go_wp2_with fail
      go_ret
      exact ⟨_, l, rfl, by omega, hl.out, hd⟩

end Go.Proofs.Ytgafdkaiiajieaa
