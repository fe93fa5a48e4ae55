/- What the reference draws of a code as two words: a kind from 0 to 3, and two words of at most eight of its letters. Condition: the code is a slice of bytes that can be read. -/
import Derived.Test.YtnpgdijafmkmkaaDraw
import Derived.Test.YtnpgdijafmkmkaaInts
import Derived.Deep.AppendLies
import Derived.Lib.MinMax
namespace Go.Proofs.Ytnpgdijafmkmkaa
open Go.RowKit

/-- A word of at most eight letters of a kind. -/
def Letters (kind : Int) (u : List Int) : Prop := u.length ≤ 8 ∧ ∀ x ∈ u, 0 ≤ x ∧ x < min kind 2

theorem ownsKept {wA W : World} {base : Nat} {E : TypeId} {size p : Nat} {v : Value} {n : Nat} {xs : List Value} (h : wA.ownsRow base E size v n xs) (k : wA.grownBy W (some p)) (hne : v.ownBlock ≠ some p) : W.ownsRow base E size v n xs := by
  obtain ⟨h1, h2⟩ := h
  refine ⟨h1, ?_⟩
  rcases h2 with h2 | ⟨g, cap, cur, rfl, hb, hg, hr⟩
  · exact .inl h2
  · refine .inr ⟨g, cap, cur, rfl, hb, ?_, hr⟩
    have hlt : g < wA.heap.size := by
      rcases Nat.lt_or_ge g wA.heap.size with hlt | hge
      · exact hlt
      · rw [Array.getElem?_eq_none hge] at hg; cases hg
    rw [k.block g hlt (fun e => hne (by rw [← e]; rfl))]; exact hg

theorem ownsKept2 {wA W : World} {base : Nat} {E : TypeId} {size : Nat} {v : Value} {n : Nat} {xs : List Value} {r : Option Nat} (h : wA.ownsRow base E size v n xs) (k : wA.grownBy W r) (hne : v.ownBlock = none ∨ v.ownBlock ≠ r) : W.ownsRow base E size v n xs := by
  obtain ⟨h1, h2⟩ := h
  refine ⟨h1, ?_⟩
  rcases h2 with h2 | ⟨g, cap, cur, rfl, hb, hg, hr⟩
  · exact .inl h2
  · refine .inr ⟨g, cap, cur, rfl, hb, ?_, hr⟩
    have hlt : g < wA.heap.size := by
      rcases Nat.lt_or_ge g wA.heap.size with hlt | hge
      · exact hlt
      · rw [Array.getElem?_eq_none hge] at hg; cases hg
    have e : (some g : Option Nat) ≠ r := by
      rcases hne with h | h
      · cases h
      · exact h
    rw [k.block g hlt e]; exact hg

theorem CurAt.grown {w0 w W : World} {p : Nat} {a : Option Addr} {len cap : Nat} {r : Option Nat} (c : CurAt w0 w p a len cap) (g : w.grownBy W r) (hne : r ≠ some p) (hr : ∀ q, r = some q → w0.heap.size ≤ q) : CurAt w0 W p a len cap := by
  obtain ⟨k, hk, hi⟩ := c.i
  obtain ⟨H, hh⟩ := c.h
  have hp := World.block_lt_of_cell? w _ hh
  have hb : W.heap[p]? = w.heap[p]? := g.block p hp (fun e => hne e.symm)
  have hc : ∀ j, W.cell? ⟨p, j, none⟩ = w.cell? ⟨p, j, none⟩ := fun j => World.cell?_of_block (a := ⟨p, j, none⟩) hb
  exact ⟨c.code, c.bel.grown g c.bel.size hr, c.lo, (hc 0).trans c.b, ⟨k, hk, (hc 1).trans hi⟩, ⟨H, (hc 2).trans hh⟩, fun j => (World.frozen?_of_block (a := ⟨p, j, none⟩) hb).trans (c.free j)⟩

/-- Two words in new memory, beside a cursor: x grows. -/
structure DInv (w : World) (p : Nat) (a : Option Addr) (len cap : Nat) (x : Value) (xs : List Int) (y : Value) (ys : List Int) (wr : World) : Prop where
  cur : CurAt w wr p a len cap
  ownx : wr.ownsRow w.heap.size 3 1 x xs.length (xs.map (Value.int .i64))
  owny : wr.ownsRow w.heap.size 3 1 y ys.length (ys.map (Value.int .i64))
  xp : x.ownBlock ≠ some p
  yp : y.ownBlock ≠ some p
  xy : y.ownBlock = none ∨ y.ownBlock ≠ x.ownBlock

theorem DInv.swap {w : World} {p : Nat} {a : Option Addr} {len cap : Nat} {x y : Value} {xs ys : List Int} {wr : World} (h : DInv w p a len cap x xs y ys wr) : DInv w p a len cap y ys x xs wr :=
  ⟨h.cur, h.owny, h.ownx, h.yp, h.xp, by
    rcases h.xy with h1 | h1
    · by_cases hx : x.ownBlock = none
      · exact .inl hx
      · exact .inr (by rw [h1]; exact hx)
    · exact .inr fun e => h1 e.symm⟩

theorem DInv.draw {w : World} {p : Nat} {a : Option Addr} {len cap : Nat} {x y : Value} {xs ys : List Int} {wr W : World} (h : DInv w p a len cap x xs y ys wr) (c : CurAt w W p a len cap) (g : wr.grownBy W (some p)) : DInv w p a len cap x xs y ys W :=
  ⟨c, ownsKept h.ownx g h.xp, ownsKept h.owny g h.yp, h.xp, h.yp, h.xy⟩

theorem DInv.below {w : World} {p : Nat} {a : Option Addr} {len cap : Nat} {x y : Value} {xs ys : List Int} {wr W : World} (h : DInv w p a len cap x xs y ys wr) (b : Below wr.heap.size wr W) : DInv w p a len cap x xs y ys W :=
  ⟨h.cur.below b, ownsBelow h.ownx b, ownsBelow h.owny b, h.xp, h.yp, h.xy⟩

theorem DInv.add {w : World} {p : Nat} {a : Option Addr} {len cap : Nat} {x y : Value} {xs ys : List Int} {wr W : World} {g' c' n : Nat} {z : Int} (h : DInv w p a len cap x xs y ys wr) (hn : n = xs.length + 1)
    (hown : W.ownsRow w.heap.size 3 1 (.slice (some ⟨g', 0, none⟩) n c') n (xs.map (Value.int .i64) ++ [.int .i64 z])) (hgrow : wr.grownBy W x.ownBlock) (hat : x.ownBlock = some g' ∨ g' = wr.heap.size) :
    DInv w p a len cap (.slice (some ⟨g', 0, none⟩) n c') (xs ++ [z]) y ys W := by
  obtain ⟨H, hh⟩ := h.cur.h
  have hp := World.block_lt_of_cell? wr _ hh
  subst hn
  refine ⟨h.cur.grown hgrow h.xp (fun q hq => (h.ownx.lt q hq).1), ?_, ownsKept2 h.owny hgrow h.xy, ?_, h.yp, ?_⟩
  · rw [List.length_append, List.map_append]
    exact hown
  · rcases hat with hat | hat
    · exact fun e => h.xp (hat.trans e)
    · intro e
      have : g' = p := by simpa [Value.ownBlock] using e
      show False
      have hp' : p < wr.heap.size := hp
      omega
  · by_cases hy : y.ownBlock = none
    · exact .inl hy
    · right
      rcases hat with hat | hat
      · rcases h.xy with h1 | h1
        · exact absurd h1 hy
        · intro e
          exact h1 (e.trans hat.symm)
      · intro e
        have hlt := (h.owny.lt g' e).2
        omega

/-- Two words of a kind, in new memory. -/
def RetWords (w : World) (e : Ending) (w' : World) : Prop :=
  ∃ (kind : Int) (x y : Value) (u v : List Int), e = .returned (.tuple #[.int .i64 kind, x, y]) ∧ 0 ≤ kind ∧ kind ≤ 3 ∧ Letters kind u ∧ Letters kind v ∧
    w'.ownsRow w.heap.size 3 1 x u.length (u.map (Value.int .i64)) ∧ w'.ownsRow w.heap.size 3 1 y v.length (v.map (Value.int .i64)) ∧ Below w.heap.size w w'

theorem letters_snoc {kind z : Int} {u : List Int} (h : ∀ x ∈ u, 0 ≤ x ∧ x < min kind 2) (h0 : 0 ≤ z) (h1 : z < min kind 2) : ∀ x ∈ u ++ [z], 0 ≤ x ∧ x < min kind 2 := by
  intro x hx
  rcases List.mem_append.1 hx with hx | hx
  · exact h x hx
  · rw [List.mem_singleton.1 hx]; exact ⟨h0, h1⟩

set_option maxHeartbeats 4000000 in
theorem drawWords_any (w : World) (a : Option Addr) (len cap : Nat) (hc : IsCode w a len) :
    Calls Try.prog 39 #[.slice a len cap] w (RetWords w) := by
  obtain ⟨i0, hi, hz0, hz1, hz2⟩ := infoParts Try.infoInt
  have HC := hide hc
  clear hc
  go_enter Try.func39, Try.ntmps39
  go_wp2_with fail
  refine (l1New_any a len cap _ HC.out).mono ?_
  rintro e w1 ⟨rfl, H, rfl⟩
  have c1 : CurAt w (w.alloc (.cells #[.slice a len cap, .int .i64 0, .int .i64 H] 73)) w.heap.size a len cap :=
    ⟨HC.out, (Below.refl _ _).alloc (Nat.le_refl _) _, Nat.le_refl _, by go_simp, ⟨0, Nat.zero_le _, by go_simp⟩, ⟨H, by go_simp⟩, fun j => by go_simp⟩
  have hs1 : w.heap.size < (w.alloc (.cells #[.slice a len cap, .int .i64 0, .int .i64 H] 73)).heap.size := by simp
  generalize w.alloc (.cells #[.slice a len cap, .int .i64 0, .int .i64 H] 73) = w1 at c1 hs1 ⊢
  go_wp2_with fail
  refine (l1Below_any w _ w.heap.size a len cap 4 c1 (by omega) (by omega)).mono ?_
  rintro e w2 ⟨kind, rfl, k0, k1, c2, g2⟩
  have hs2 : w.heap.size < w2.heap.size := by have := g2.size; omega
  clear c1 g2 hs1
  have hd : DInv w w.heap.size a len cap (.slice (some ⟨w2.heap.size, 0, none⟩) 0 0) [] (.slice (some ⟨w2.heap.size + 1, 0, none⟩) 0 0) [] ((w2.alloc (.cells #[] 3)).alloc (.cells #[] 3)) := by
    refine ⟨c2.below (((Below.refl _ _).alloc (Nat.le_refl _) _).alloc (by simp) _), ownsBelow (World.ownsRow_lit w2 #[] 0 (by omega) (by unfold maxLen; omega) rfl) ((Below.refl _ _).alloc (Nat.le_refl _) _), ?_, ?_, ?_, .inr ?_⟩
    · have := World.ownsRow_lit (base := w.heap.size) (size := 1) (e := 3) (w2.alloc (.cells #[] 3)) #[] 0 (by simp; omega) (by unfold maxLen; omega) rfl
      simpa using this
    · simp [Value.ownBlock]; omega
    · simp [Value.ownBlock]; omega
    · simp [Value.ownBlock]
  clear c2
  go_wp2_with fail
  refine (l1Below_any w _ w.heap.size a len cap 9 hd.cur (by omega) (by omega)).mono ?_
  rintro e w3 ⟨m, rfl, m0, m1, c3, g3⟩
  have hd3 := hd.draw c3 g3
  clear hd c3 g3
  obtain ⟨m, rfl⟩ := Int.eq_ofNat_of_zero_le m0
  generalize (Value.slice (some ⟨w2.heap.size, 0, none⟩) 0 0) = X at hd3 ⊢
  generalize (Value.slice (some ⟨w2.heap.size + 1, 0, none⟩) 0 0) = Y at hd3 ⊢
  clear hs2
  by_cases hk : 0 < kind
  · have hkb : decide (kind > 0) = true := decide_eq_true hk
    go_wp2_with fail
    go_loopw [7, 9] (fun x i wr => ∃ (m : Nat) (us : List Int), i = .int .i64 m ∧ m + us.length ≤ 8 ∧ Hid (∀ z ∈ us, 0 ≤ z ∧ z < min kind 2) ∧ DInv w w.heap.size a len cap x us Y [] wr) (fun _ i _ => (intOf i).toNat)
    case atStart => exact ⟨_, [], rfl, by simp; omega, fun z hz => (by simp at hz), hd3⟩
    case round =>
      clear hd3
      obtain ⟨m, us, rfl, hm, hus, hd⟩ := hrel
      cases m with
      | succ m =>
        have hgt : decide (((m + 1 : Nat) : Int) > 0) = true := decide_eq_true (by omega)
        have hp1 : (0 : Int) < (m : Int) + 1 := by omega
        go_wp2_with fail
        refine (l1Below_any w _ w.heap.size a len cap (min kind 2) hd.cur (by omega) (by omega)).mono ?_
        rintro e w4 ⟨z, rfl, z0, z1, c4, g4⟩
        have hd4 := hd.draw c4 g4
        have hd5 := hd4.below ((Below.refl w4.heap.size w4).alloc (Nat.le_refl _) (.cells #[.int .i64 z] 3))
        have hls := letters_snoc hus.out z0 z1
        have HLS := hide hls
        clear hd c4 g4 hd4 hls z0 z1 hus
        go_wp2_with (at_builtin; refine wpList_append_lies _ rfl _ _ 42 rfl w.heap.size 3 i0 (.int .i64 0) 1 8 Try.underlying42 hi hz0 hz1 hz2 rfl (by decide) _ _ _ rfl hd5.ownx ⟨w4.heap.size, 0, none⟩ 1 1 [.int .i64 z] rfl rfl ?c1 ?c2 (by omega) ?c3 ?c4 ?c5 _ rfl ?_)
        case c1 =>
          intro j u hj
          match j, hj with
          | 0, hj => simp at hj; subst hj; simp only [Addr.add]; go_simp
        case c2 => intro u hu; simp at hu; rcases hu with rfl; rfl
        case c3 => unfold maxLen; omega
        case c4 => omega
        case c5 => exact hd5.cur.bel.size
        intro g' cap' w5 hown' hgrow hat _
        have hn := hd5.add rfl hown' hgrow (by simpa using hat)
        clear hown' hgrow hat hd5
        go_wp2_with fail
        go_roundw
        case rel => exact ⟨m, us ++ [z], by first | rfl | (congr 1; omega), by simp; omega, HLS, hn⟩
        case measure => first | (simp [intOf]; done) | (simp [intOf]; omega)
      | zero =>
        have hz00 : decide (((0 : Nat) : Int) > 0) = false := rfl
        obtain ⟨x, hx, hd⟩ : ∃ x, x = _ ∧ DInv w w.heap.size a len cap x us Y [] wr := ⟨_, rfl, hd⟩
        subst hx
        go_wp2_with fail
        refine (l1Below_any w _ w.heap.size a len cap 9 hd.cur (by omega) (by omega)).mono ?_
        rintro e w6 ⟨n, rfl, n0, n1, c6, g6⟩
        have hd6 := (hd.draw c6 g6).swap
        clear hd c6 g6
        obtain ⟨n, rfl⟩ := Int.eq_ofNat_of_zero_le n0
        have HU := hus
        clear hus
        go_wp2_with fail
        go_loopw [8, 10] (fun y i wr => ∃ (q : Nat) (vs : List Int), i = .int .i64 q ∧ q + vs.length ≤ 8 ∧ Hid (∀ z ∈ vs, 0 ≤ z ∧ z < min kind 2) ∧ DInv w w.heap.size a len cap y vs x us wr) (fun _ i _ => (intOf i).toNat)
        case atStart => exact ⟨_, [], rfl, by simp; omega, fun z hz => (by simp at hz), hd6⟩
        case round =>
          clear hd6
          obtain ⟨q, vs, rfl, hq, hvs, hd⟩ := hrel
          cases q with
          | succ q =>
            have hgt : decide (((q + 1 : Nat) : Int) > 0) = true := decide_eq_true (by omega)
            have hp1 : (0 : Int) < (q : Int) + 1 := by omega
            go_wp2_with fail
            refine (l1Below_any w _ w.heap.size a len cap (min kind 2) hd.cur (by omega) (by omega)).mono ?_
            rintro e w4 ⟨z, rfl, z0, z1, c4, g4⟩
            have hd4 := hd.draw c4 g4
            have hd5 := hd4.below ((Below.refl w4.heap.size w4).alloc (Nat.le_refl _) (.cells #[.int .i64 z] 3))
            have hls := letters_snoc hvs.out z0 z1
            have HLS := hide hls
            clear hd c4 g4 hd4 hls z0 z1 hvs
            go_wp2_with (at_builtin; refine wpList_append_lies _ rfl _ _ 42 rfl w.heap.size 3 i0 (.int .i64 0) 1 8 Try.underlying42 hi hz0 hz1 hz2 rfl (by decide) _ _ _ rfl hd5.ownx ⟨w4.heap.size, 0, none⟩ 1 1 [.int .i64 z] rfl rfl ?c1 ?c2 (by omega) ?c3 ?c4 ?c5 _ rfl ?_)
            case c1 =>
              intro j u hj
              match j, hj with
              | 0, hj => simp at hj; subst hj; simp only [Addr.add]; go_simp
            case c2 => intro u hu; simp at hu; rcases hu with rfl; rfl
            case c3 => unfold maxLen; omega
            case c4 => omega
            case c5 => exact hd5.cur.bel.size
            intro g' cap' w5 hown' hgrow hat _
            have hn := hd5.add rfl hown' hgrow (by simpa using hat)
            clear hown' hgrow hat hd5
            go_wp2_with fail
            go_roundw
            case rel => exact ⟨q, vs ++ [z], by first | rfl | (congr 1; omega), by simp; omega, HLS, hn⟩
            case measure => first | (simp [intOf]; done) | (simp [intOf]; omega)
          | zero =>
            have hz00 : decide (((0 : Nat) : Int) > 0) = false := rfl
            go_wp2_with fail
            go_ret3
            exact ⟨kind, _, _, us, vs, rfl, k0, by omega, ⟨by omega, HU.out⟩, ⟨by omega, hvs.out⟩, hd.owny, hd.ownx, hd.cur.bel⟩
  · obtain rfl : kind = 0 := by omega
    go_wp2_with fail
    go_loopw [7, 9] (fun x i wr => x = X ∧ i = .int .i64 m ∧ wr = w3) (fun _ _ _ => 0)
    case atStart => exact ⟨rfl, rfl, rfl⟩
    case round =>
      obtain ⟨rfl, rfl, rfl⟩ := hrel
      have hE : Hid (∀ z ∈ ([] : List Int), 0 ≤ z ∧ z < min (0 : Int) 2) := fun z hz => by simp at hz
      cases m with
      | succ m =>
        have hgt : decide (((m + 1 : Nat) : Int) > 0) = true := decide_eq_true (by omega)
        have hp1 : (0 : Int) < (m : Int) + 1 := by omega
        go_wp2_with fail
        refine (l1Below_any w _ w.heap.size a len cap 9 hd3.cur (by omega) (by omega)).mono ?_
        rintro e w6 ⟨n, rfl, n0, n1, c6, g6⟩
        have hd6 := hd3.draw c6 g6
        clear hd3 c6 g6
        obtain ⟨n, rfl⟩ := Int.eq_ofNat_of_zero_le n0
        go_wp2_with fail
        go_loopw [8, 10] (fun y i wr => y = Y ∧ i = .int .i64 n ∧ wr = w6) (fun _ _ _ => 0)
        case atStart => exact ⟨rfl, rfl, rfl⟩
        case round =>
          obtain ⟨rfl, rfl, rfl⟩ := hrel
          cases n with
          | succ n =>
            have hgt2 : decide (((n + 1 : Nat) : Int) > 0) = true := decide_eq_true (by omega)
            have hp2 : (0 : Int) < (n : Int) + 1 := by omega
            go_wp2_with fail
            go_ret3
            exact ⟨0, _, _, [], [], rfl, by omega, by omega, ⟨by simp, hE.out⟩, ⟨by simp, hE.out⟩, hd6.ownx, hd6.owny, hd6.cur.bel⟩
          | zero =>
            go_wp2_with fail
            go_ret3
            exact ⟨0, _, _, [], [], rfl, by omega, by omega, ⟨by simp, hE.out⟩, ⟨by simp, hE.out⟩, hd6.ownx, hd6.owny, hd6.cur.bel⟩
      | zero =>
        go_wp2_with fail
        refine (l1Below_any w _ w.heap.size a len cap 9 hd3.cur (by omega) (by omega)).mono ?_
        rintro e w6 ⟨n, rfl, n0, n1, c6, g6⟩
        have hd6 := hd3.draw c6 g6
        clear hd3 c6 g6
        obtain ⟨n, rfl⟩ := Int.eq_ofNat_of_zero_le n0
        go_wp2_with fail
        go_loopw [8, 10] (fun y i wr => y = Y ∧ i = .int .i64 n ∧ wr = w6) (fun _ _ _ => 0)
        case atStart => exact ⟨rfl, rfl, rfl⟩
        case round =>
          obtain ⟨rfl, rfl, rfl⟩ := hrel
          cases n with
          | succ n =>
            have hgt2 : decide (((n + 1 : Nat) : Int) > 0) = true := decide_eq_true (by omega)
            have hp2 : (0 : Int) < (n : Int) + 1 := by omega
            go_wp2_with fail
            go_ret3
            exact ⟨0, _, _, [], [], rfl, by omega, by omega, ⟨by simp, hE.out⟩, ⟨by simp, hE.out⟩, hd6.ownx, hd6.owny, hd6.cur.bel⟩
          | zero =>
            go_wp2_with fail
            go_ret3
            exact ⟨0, _, _, [], [], rfl, by omega, by omega, ⟨by simp, hE.out⟩, ⟨by simp, hE.out⟩, hd6.ownx, hd6.owny, hd6.cur.bel⟩

end Go.Proofs.Ytnpgdijafmkmkaa
