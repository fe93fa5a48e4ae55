/- What OrbitOf computes: a row of as many points as the list of images without repeats has, each of them an image. Condition: a point. -/
import Derived.Test.YtgafdkaiiajieaaOrbZ
import Derived.Test.YtgafdkaiiajieaaOfI
import Derived.Test.YtgafdkaiiajieaaEqS
import Derived.Deep.AppendLies
namespace Go.Proofs.Ytgafdkaiiajieaa
open Go.RowKit Go.Sort
open Fl

/-- Rows of two types lie in two blocks. -/
theorem rowsApartZ {w : World} {base base' : Nat} {E E' : TypeId} {s s' n n' : Nat} {v v' : Value} {xs xs' : List Value} (h : w.ownsRow base E s v n xs) (h' : w.ownsRow base' E' s' v' n' xs') (hne : E ≠ E') :
    v.ownBlock = none ∨ v.ownBlock ≠ v'.ownBlock := by
  rcases h.2 with ⟨rfl, _⟩ | ⟨g, cap, cur, rfl, hb, hg, _⟩
  · exact .inl rfl
  · right
    rcases h'.2 with ⟨rfl, _⟩ | ⟨g', cap', cur', rfl, hb', hg', _⟩
    · simp [Value.ownBlock]
    · intro e
      have : g = g' := by simpa [Value.ownBlock] using e
      subst this
      rw [hg] at hg'
      cases hg'
      exact hne rfl

theorem ownsKeptZ {wA W : World} {base : Nat} {E : TypeId} {size : Nat} {v : Value} {n : Nat} {xs : List Value} {r : Option Nat} (h : wA.ownsRow base E size v n xs) (k : wA.grownBy W r) (hne : v.ownBlock = none ∨ v.ownBlock ≠ r) : W.ownsRow base E size v n xs := by
  obtain ⟨h1, h2⟩ := h
  refine ⟨h1, ?_⟩
  rcases h2 with h2 | ⟨g, cap, cur, rfl, hb, hg, hr⟩
  · exact .inl h2
  · refine .inr ⟨g, cap, cur, rfl, hb, ?_, hr⟩
    have hlt : g < wA.heap.size := by
      rcases Nat.lt_or_ge g wA.heap.size with hlt | hge
      · exact hlt
      · rw [Array.getElem?_eq_none hge] at hg; cases hg
    have e : (some g : Option Nat) ≠ r := by
      rcases hne with h | h
      · cases h
      · exact h
    rw [k.block g hlt e]; exact hg

/-- A point more, if it is new. -/
def dedZ (acc : List (Nat × Nat)) (p : Nat × Nat) : List (Nat × Nat) := if acc.any (eqZ p) then acc else acc ++ [p]

/-- The images of a point under a list of symmetries, without repeats. -/
def orbL (x y : Nat) (l : List (Int × Bool)) : List (Nat × Nat) := l.foldl (fun acc g => dedZ acc (actW g.1 g.2 x y)) []

theorem orbL_succ {x y : Nat} {l : List (Int × Bool)} {k : Nat} (h : k < l.length) : orbL x y (l.take (k + 1)) = dedZ (orbL x y (l.take k)) (actW l[k].1 l[k].2 x y) := by
  unfold orbL
  rw [List.take_succ_eq_append_getElem h, List.foldl_append]
  rfl

theorem dedZ_len (acc : List (Nat × Nat)) (p : Nat × Nat) : (dedZ acc p).length ≤ acc.length + 1 := by
  unfold dedZ
  split
  · omega
  · simp

theorem orbL_len (x y : Nat) (l : List (Int × Bool)) : (orbL x y l).length ≤ l.length := by
  have key : ∀ k, k ≤ l.length → (orbL x y (l.take k)).length ≤ k := by
    intro k
    induction k with
    | zero => intro _; simp [orbL]
    | succ k ih =>
      intro hk
      rw [orbL_succ (by omega)]
      have := dedZ_len (orbL x y (l.take k)) (actW l[k].1 l[k].2 x y)
      have := ih (by omega)
      omega
  have := key l.length (Nat.le_refl _)
  rwa [List.take_length] at this

theorem dedZ_pos (acc : List (Nat × Nat)) (p : Nat × Nat) : 0 < (dedZ acc p).length := by
  unfold dedZ
  split
  · next h =>
    cases acc with
    | nil => simp at h
    | cons a b => simp
  · simp

theorem orbL_pos (x y : Nat) {l : List (Int × Bool)} (h : 0 < l.length) : 0 < (orbL x y l).length := by
  have e := orbL_succ (x := x) (y := y) (l := l) (k := l.length - 1) (by omega)
  rw [show l.length - 1 + 1 = l.length by omega, List.take_length] at e
  rw [e]
  exact dedZ_pos _ _

theorem symsOf_win {kind : Int} {s : Int × Bool} (h : s ∈ symsOf kind) : win s.1 0 3 = true := by
  unfold symsOf at h
  split at h
  · have h := (List.mem_filter.1 h).1
    unfold allSyms at h
    obtain ⟨i, _, rfl⟩ := List.mem_map.1 h
    exact win_iff.2 ⟨by show (0 : Int) ≤ (i : Int) % 4; omega, by show (i : Int) % 4 ≤ 3; omega⟩
  · cases h

theorem Try.infoCpx : (Try.prog.info? 24).map (fun i => (i.zero, i.size, i.bytes)) = some (some (.complex .f32 0 0), 1, 8) := by kernel_rfl

/-- The images of a point. -/
def RetOrb (kind : Int) (x y : Nat) (w : World) (e : Ending) (w' : World) : Prop :=
  ∃ v zs, e = .returned v ∧ RowZ w.heap.size w' v zs ∧ zs.length = (orbL x y (symsOf kind)).length ∧ (∀ p ∈ zs, p ∈ orbL x y (symsOf kind)) ∧ Below w.heap.size w w'

set_option maxRecDepth 100000 in
set_option maxHeartbeats 4000000 in
theorem orbitOf_any (kind : Int) (x y : Nat) (w : World) (hp : Pt x y) (hne : 0 < (symsOf kind).length) :
    Calls Try.prog 18 #[.int .i64 kind, .complex .f32 x y] w (RetOrb kind x y w) := by
  have A := hide (fun l : Int × Bool => fun (h : l ∈ symsOf kind) W => actSym_y l.1 l.2 x y W (symsOf_win h) hp)
  have HI := hide (isPoint_y x y w hp)
  have HS := hide (fun W => symsOf_any kind W)
  have hle := symsOf_le kind
  have hpos := hide (orbL_pos x y hne)
  unfold RetOrb
  clear hne
  generalize symsOf kind = l at A HS hle hpos ⊢
  obtain ⟨i0, hi, hz0, hz1, hz2⟩ := infoParts Try.infoCpx
  clear hp
  go_enter Try.func18, Try.ntmps18
  go_wp2_with fail
  refine HI.out.mono ?_
  rintro e w1 ⟨rfl, rfl⟩
  clear HI
  go_wp2_with fail
  have hO0 : RowZ w.heap.size (w.alloc (.cells #[] 24)) (.slice (some ⟨w.heap.size, 0, none⟩) 0 0) (orbL x y (l.take 0)) := World.ownsRow_lit w #[] 0 (Nat.le_refl _) (by unfold maxLen; omega) rfl
  have bel : Below w.heap.size w (w.alloc (.cells #[] 24)) := (Below.refl _ _).alloc (Nat.le_refl _) _
  have bel2 := bel.size
  generalize w.alloc (.cells #[] 24) = w2 at hO0 bel bel2 ⊢
  generalize Value.slice (some ⟨w.heap.size, 0, none⟩) 0 0 = X0 at hO0 ⊢
  refine (HS.out _).mono ?_
  rintro e w3 ⟨v, rfl, own, hb3⟩
  obtain ⟨aS, cS, rfl, hR⟩ := readsS_of_own own
  have bel := belowOf bel hb3
  have hO0 : RowZ w.heap.size w3 X0 (orbL x y (l.take 0)) := ownsBelowZ hO0 hb3
  have own := ownsBaseZ own (base' := w.heap.size) (by have := bel.size; have := hb3.size; have := bel2; omega)
  clear hb3 HS hR
  generalize hN : l.length = n at own hle ⊢
  have HN := hide hN
  clear hN
  go_wp2_with fail
  go_loopw [5, 16] (fun o i wr => ∃ k : Nat, k ≤ n ∧ i = .int .i64 k ∧ RowZ w.heap.size wr o (orbL x y (l.take k)) ∧ wr.ownsRow w.heap.size 28 2 (.slice aS n cS) n (symCells l) ∧ Below w.heap.size w wr) (fun _ i _ => n - (intOf i).toNat)
  case atStart => exact ⟨0, Nat.zero_le _, rfl, hO0, own, bel⟩
  case round =>
    clear hO0 bel own
    obtain ⟨k, hk, rfl, hown, own, bel⟩ := hrel
    by_cases hlt : k < n
    · have own' := own
      rw [← HN.out] at own'
      obtain ⟨aS', cS', he, hR⟩ := readsS_of_own own'
      rw [HN.out] at hR he
      obtain ⟨rfl, rfl⟩ : aS = aS' ∧ cS = cS' := by simpa using he
      clear own' he
      obtain ⟨g, rfl, hg⟩ : ∃ g, aS = some ⟨g, 0, none⟩ ∧ ∀ j, j < n * 2 → wr.cell? ⟨g, j, none⟩ = (symCells l)[j]? := by
        rcases hR.2 with h0 | ⟨g, hg, _, _, hc⟩
        · omega
        · exact ⟨g, hg, hc⟩
      have hkl : k < l.length := by rw [HN.out]; exact hlt
      obtain ⟨x0, x1⟩ := ReadsS.at hg HN.out k hlt
      clear hR
      have HA := hide (A.out l[k] (List.getElem_mem hkl))
      have HE := hide (orbL_succ (x := x) (y := y) hkl)
      generalize l[k] = s at x0 x1 HA HE
      obtain ⟨T, F⟩ := s
      clear hg
      simp only at x0 x1
      have HE : Hid (orbL x y (l.take (k + 1)) = dedZ (orbL x y (l.take k)) (actW T F x y)) := HE
      have HA : Hid (∀ W, Calls Try.prog 17 #[.agg #[.int .i64 T, .bool F], .complex .f32 x y] W fun e w' => e = .returned (.complex .f32 (actW T F x y).1 (actW T F x y).2) ∧ Below W.heap.size W w') := HA
      have hlen : (orbL x y (l.take k)).length ≤ k := Nat.le_trans (orbL_len x y _) (by simp; omega)
      obtain ⟨O1, hO1⟩ : ∃ O1, orbL x y (l.take (k + 1)) = O1 := ⟨_, rfl⟩
      rw [hO1] at HE
      have HO1 := hide hO1
      clear hO1
      generalize orbL x y (l.take k) = O at hown HE hlen
      obtain ⟨au, cu, rfl, hRO⟩ := readsZ_of_row hown
      generalize actW T F x y = P at HA HE
      obtain ⟨px, py⟩ := P
      go_wp2_with fail
      have nb : Below wr.heap.size wr (wr.alloc (.cells #[.int .i64 T, .bool F] 28)) := (Below.refl _ _).alloc (Nat.le_refl _) _
      refine (HA.out _).mono ?_
      rintro e w4 ⟨rfl, hb4⟩
      have nb := belowOf nb hb4
      clear hb4
      have hown := ownsBelowZ hown nb
      have own := ownsBelowZ own nb
      have bel := belowOf bel nb
      have hRO := hide (hRO.below nb)
      clear nb x0 x1 HA
      go_wp2_with fail
      refine (containsZ_any _ _ _ O px py _ hRO.out (by omega)).mono ?_
      rintro e w5 ⟨rfl, hb5⟩
      have hown := ownsBelowZ hown hb5
      have own := ownsBelowZ own hb5
      have bel := belowOf bel hb5
      clear hb5 hRO
      cases hc : O.any (eqZ (px, py))
      · have HE : Hid (O1 = O ++ [(px, py)]) := by
          have := HE.out
          unfold dedZ at this
          rw [hc] at this
          exact this
        have nb : Below w5.heap.size w5 (w5.alloc (.cells #[.complex .f32 px py] 24)) := (Below.refl _ _).alloc (Nat.le_refl _) _
        have hown := ownsBelowZ hown nb
        have own := ownsBelowZ own nb
        have bel := belowOf bel nb
        clear nb hc
        go_wp2_with (at_builtin; refine wpList_append_lies _ rfl _ _ 36 rfl w.heap.size 24 i0 (.complex .f32 0 0) 1 8 Try.underlying36 hi hz0 hz1 hz2 rfl (by decide) _ _ _ rfl hown ⟨w5.heap.size, 0, none⟩ 1 1 [.complex .f32 px py] rfl rfl ?c1 ?c2 (by omega) ?c3 ?c4 ?c5 _ rfl ?_)
        case c1 =>
          intro j u hj
          match j, hj with
          | 0, hj => simp at hj; subst hj; simp only [Addr.add]; go_simp
        case c2 => intro u hu; simp at hu; subst hu; rfl
        case c3 => unfold maxLen; omega
        case c4 => omega
        case c5 => exact bel.size
        intro g' cap' w6 hown' hgrow hat' _
        have bel := bel.grown hgrow bel.size (fun q hq => (hown.lt q hq).1)
        have own := ownsKeptZ own hgrow (rowsApartZ own hown (by decide))
        have hown : RowZ w.heap.size w6 (.slice (some ⟨g', 0, none⟩) (O.length + 1) cap') O1 := by
          rw [HE.out]
          unfold RowZ
          simpa [cv] using hown'
        clear hown' hgrow hat'
        go_wp2_with fail
        go_roundw
        case rel => exact ⟨k + 1, by omega, by go_num, by rw [HO1.out]; exact hown, own, bel⟩
        case measure => simp [intOf]; omega
      · have HE : O1 = O := by
          have := HE.out
          unfold dedZ at this
          rw [hc] at this
          exact this
        subst HE
        go_wp2_with fail
        go_roundw
        case rel => exact ⟨k + 1, by omega, by go_num, by rw [HO1.out]; exact hown, own, bel⟩
        case measure => simp [intOf]; omega
    · obtain rfl : k = n := by omega
      rw [show l.take k = l from List.take_of_length_le (by rw [HN.out]; exact Nat.le_refl _)] at hown
      have hlen := orbL_len x y l
      rw [HN.out] at hlen
      generalize hO : orbL x y l = O at hown hlen hpos
      have HO := hide hO
      clear hO own
      have hp0 := hpos.out
      rcases hown.2 with ⟨rfl, h0⟩ | ⟨g, cap, cur, rfl, hb, hg, hn, hm, _, _⟩
      · omega
      · have hZ : InZ w.heap.size g O.length cap O wr wr O := ⟨rfl, fun p h => h, hown, Below.refl _ _, bel.size⟩
        have HZ := hide hZ
        clear hown hZ hb hg hn hm
        go_wp2_with fail
        refine (sortZ_any w.heap.size g O.length cap O _ HZ.out (by omega)).mono ?_
        rintro e w4 ⟨rfl, zs, hz⟩
        have hl := hz.len
        have hrow : RowZ w.heap.size w4 (.slice (some ⟨g, 0, none⟩) O.length cap) zs := hz.row
        have hsub := hide hz.sub
        have bel := bel.trans hz.bel
        clear hz HZ
        have hl2 := hide (show zs.length = (orbL x y l).length by rw [HO.out]; exact hl)
        have hsub2 := hide (show ∀ p ∈ zs, p ∈ orbL x y l by rw [HO.out]; exact hsub.out)
        clear hl hsub
        generalize O.length = N at hrow ⊢
        go_wp2_with fail
        go_ret
        exact ⟨_, zs, rfl, hrow, hl2.out, hsub2.out, bel⟩

end Go.Proofs.Ytgafdkaiiajieaa
