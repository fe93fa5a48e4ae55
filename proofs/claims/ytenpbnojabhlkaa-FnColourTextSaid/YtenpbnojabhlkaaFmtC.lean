/- What the program's and the reference's FormatColour compute: three digits, or nothing. For all colours and worlds. -/
import Derived.Test.YtenpbnojabhlkaaStepP
import Derived.Test.YtenpbnojabhlkaaCol
import Derived.Deep.AppendLies
import Derived.Deep.RegionHeld3
import Derived.Lib.MinMax
namespace Go.Proofs.Ytenpbnojabhlkaa
open Go.RowKit
open Fl

theorem infoPartsC {P : Program} {t : TypeId} {z : Value} {s b : Nat} (h : (P.info? t).map (fun i => (i.zero, i.size, i.bytes)) = some (some z, s, b)) :
    ∃ i, P.info? t = some i ∧ i.zero = some z ∧ i.size = s ∧ i.bytes = b := by
  cases hi : P.info? t with
  | none => simp [hi] at h
  | some i => simp [hi] at h; exact ⟨i, rfl, h.1, h.2.1, h.2.2⟩

/-- An owned row stays owned where nothing old is changed. -/
theorem ownsBelowC {wA W : World} {base : Nat} {E : TypeId} {size : Nat} {v : Value} {n : Nat} {xs : List Value} (h : wA.ownsRow base E size v n xs) (k : Below wA.heap.size wA W) : W.ownsRow base E size v n xs := by
  obtain ⟨h1, h2⟩ := h
  refine ⟨h1, ?_⟩
  rcases h2 with h2 | ⟨g, cap, cur, rfl, hb, hg, hr⟩
  · exact .inl h2
  · refine .inr ⟨g, cap, cur, rfl, hb, ?_, hr⟩
    have hlt : g < wA.heap.size := by
      rcases Nat.lt_or_ge g wA.heap.size with hlt | hge
      · exact hlt
      · rw [Array.getElem?_eq_none hge] at hg; cases hg
    rw [k.block g hlt]; exact hg

abbrev hexS : ByteArray := ⟨#[48, 49, 50, 51, 52, 53, 54, 55, 56, 57, 97, 98, 99, 100, 101, 102]⟩

theorem Try.infoByte : (Try.prog.info? 5).map (fun i => (i.zero, i.size, i.bytes)) = some (some (.int .u8 0), 1, 1) := by kernel_rfl

/-- The text of a colour. -/
def fmtCol (v : Bool) (r g b : Nat) : ByteArray := if v then ⟨#[hx (dig r), hx (dig g), hx (dig b)]⟩ else ⟨#[]⟩

theorem hex_at {n : Nat} (h : n ≤ 15) : ∃ hn : n < hexS.size, hexS[n] = hx n := by
  have hs : hexS.size = 16 := rfl
  refine ⟨by omega, ?_⟩
  have : ∀ n, n < 16 → ∃ hn : n < hexS.size, hexS[n] = hx n := by decide
  exact (this n (by omega)).2

theorem idx_hex (w : World) {n : Nat} (h : n ≤ 15) : (Instr.index 9 (.string hexS) (.int .i64 (n : Int))).run Try.prog w = .ok (.int .u8 ((hx n).toNat : Int)) w := by
  obtain ⟨hn, he⟩ := hex_at h
  rw [run_index_string w 9 hexS .i64 n Try.underlying9]
  have hs : hexS.size = 16 := rfl
  rw [dif_pos (by rw [hs]; omega)]
  simp only [Int.toNat_natCast]
  rw [he]

theorem cvt16 {x : Nat} (h : part x = true) (w : World) : (convert 22 3 (.float .f32 (wordP (isNeg x ^^ isNeg w16) (mv (rg x) * mv (rg w16))))).run Try.prog w = .ok (.int .i64 (step x)) w :=
  run_convert_float_int w 22 3 .f32 .i64 _ _ (by rw [Try.underlying22]; rfl) Try.underlying3 (conv16 h)

theorem cvt16c {x : Nat} (h : part x = true) (w : World) : (convert 22 3 (.float .f32 (timesF x w16))).run Try.prog w = .ok (.int .i64 (step x)) w :=
  run_convert_float_int w 22 3 .f32 .i64 _ _ (by rw [Try.underlying22]; rfl) Try.underlying3 (conv16c h)

theorem min_dig (ts : Array TypeId) (t : TypeId) (x : Nat) (w : World) : (Builtin.min_ ts t #[.int .i64 (step x), .int .i64 15]).run Try.prog w = .ok (.int .i64 (dig x)) w := by
  rw [Lib.run_min_ints]
  congr 2
  unfold dig
  split <;> omega

/-- What holds at a round's head of a loop that appends: xs is what has been appended; L is the row that the rounds read. -/
structure AppInv (w : World) (E : TypeId) (sz : Nat) (fb : Nat) (L : List Value) (v : Value) (n : Nat) (xs : List Value) (wr : World) : Prop where
  own : wr.ownsRow w.heap.size E sz v n xs
  all : ∀ j, j < L.length → wr.cell? ⟨fb, j, none⟩ = L[j]?
  ne : v.ownBlock ≠ some fb
  glt : fb < wr.heap.size
  bel : Below w.heap.size w wr

theorem AppInv.below {w : World} {E : TypeId} {sz fb : Nat} {L : List Value} {v : Value} {n : Nat} {xs : List Value} {wr W : World} (h : AppInv w E sz fb L v n xs wr) (hb : Below wr.heap.size wr W) : AppInv w E sz fb L v n xs W :=
  ⟨ownsBelowC h.own hb, fun j hj => (hb.cell (p := ⟨fb, j, none⟩) h.glt).trans (h.all j hj), h.ne, Nat.lt_of_lt_of_le h.glt hb.size, h.bel.trans (hb.mono h.bel.size)⟩

theorem AppInv.add {w : World} {E : TypeId} {sz fb : Nat} {L : List Value} {v : Value} {n m : Nat} {xs ys : List Value} {wr W : World} {g' cap : Nat} (h : AppInv w E sz fb L v n xs wr)
    (hown : W.ownsRow w.heap.size E sz (.slice (some ⟨g', 0, none⟩) m cap) m ys) (hgrow : wr.grownBy W v.ownBlock) (hat : v.ownBlock = some g' ∨ g' = wr.heap.size) : AppInv w E sz fb L (.slice (some ⟨g', 0, none⟩) m cap) m ys W := by
  refine ⟨hown, fun j hj => ?_, ?_, Nat.lt_of_lt_of_le h.glt hgrow.size, ?_⟩
  · rw [← h.all j hj]
    exact World.cell?_of_block (hgrow.block fb h.glt (fun q => h.ne q.symm))
  · rcases hat with hat | hat
    · exact fun q => h.ne (hat.trans q)
    · have := h.glt
      simp [Value.ownBlock]; omega
  · exact h.bel.grown hgrow h.bel.size (fun q hq => (h.own.lt q hq).1)

/-- The first k digits' bytes. -/
def digV (l : List Nat) (k : Nat) : List Value := (l.take k).map fun x => .int .u8 ((hx (dig x)).toNat : Int)

theorem digV_succ {l : List Nat} {k : Nat} (h : k < l.length) : digV l (k + 1) = digV l k ++ [.int .u8 ((hx (dig l[k])).toNat : Int)] := by
  unfold digV
  rw [List.take_succ_eq_append_getElem h, List.map_append]
  rfl

theorem isColourW (r g b : Nat) (w : World) (h : isCol r g b = true) :
    Calls Try.prog 16 #[.agg #[.float .f32 r, .float .f32 g, .float .f32 b]] w fun e w' => e = .returned (.bool true) ∧ Below w.heap.size w w' :=
  (isColour_any r g b w).mono fun _ _ ⟨he, hw⟩ => ⟨by rw [he, h], hw ▸ ((Below.refl _ _).alloc (Nat.le_refl _) _)⟩

theorem str_dig (a b c : UInt8) : strOfNums [(a.toNat : Int), (b.toNat : Int), (c.toNat : Int)] = ⟨#[a, b, c]⟩ := by simp [strOfNums]

set_option maxHeartbeats 2000000 in
theorem formatColour_yes (r g b : Nat) (w : World) (hc : isCol r g b = true) (pr : part r = true) (pg : part g = true) (pb : part b = true) :
    Calls Try.prog 18 #[.agg #[.float .f32 r, .float .f32 g, .float .f32 b]] w fun e w' => e = .returned (.string ⟨#[hx (dig r), hx (dig g), hx (dig b)]⟩) ∧ Below w.heap.size w w' := by
  obtain ⟨i0, hi, hz0, hz1, hz2⟩ := infoPartsC Try.infoByte
  have HC := hide hc
  have PL := hide (show ∀ k, k < 3 → ∃ x, part x = true ∧ digV [r, g, b] (k + 1) = digV [r, g, b] k ++ [.int .u8 ((hx (dig x)).toNat : Int)] ∧ [Value.float .f32 r, .float .f32 g, .float .f32 b][k]? = some (.float .f32 x) from fun k hk => by
    match k, hk with
    | 0, _ => exact ⟨r, pr, rfl, rfl⟩
    | 1, _ => exact ⟨g, pg, rfl, rfl⟩
    | 2, _ => exact ⟨b, pb, rfl, rfl⟩)
  have HE := hide (str_dig (hx (dig r)) (hx (dig g)) (hx (dig b)))
  clear hc pr pg pb
  go_enter Try.func18, Try.ntmps18
  go_wp2_with fail
  have a0 : ((w.alloc (.cells #[.float .f32 r, .float .f32 g, .float .f32 b] 26))).cell? ⟨w.heap.size, 0, none⟩ = some (.float .f32 r) := by go_simp
  have a1 : ((w.alloc (.cells #[.float .f32 r, .float .f32 g, .float .f32 b] 26))).cell? ⟨w.heap.size, 1, none⟩ = some (.float .f32 g) := by go_simp
  have a2 : ((w.alloc (.cells #[.float .f32 r, .float .f32 g, .float .f32 b] 26))).cell? ⟨w.heap.size, 2, none⟩ = some (.float .f32 b) := by go_simp
  have bel : Below w.heap.size w ((w.alloc (.cells #[.float .f32 r, .float .f32 g, .float .f32 b] 26))) := (by repeat (first | exact Below.refl _ _ | assumption | refine Below.drew ?_ | refine Below.setCell ?_ (by first | (dsimp only; omega) | (simp; omega) | simp) _ | refine Below.alloc ?_ (by first | omega | (simp; omega) | simp) _))
  generalize (w.alloc (.cells #[.float .f32 r, .float .f32 g, .float .f32 b] 26)) = wA at a0 a1 a2 bel ⊢
  have hswA := bel.size
  refine (isColourW _ _ _ _ HC.out).mono ?_
  rintro e w1 ⟨rfl, hb1⟩
  have a0 := keepc hb1 a0
  have a1 := keepc hb1 a1
  have a2 := keepc hb1 a2
  have bel := belowOf bel hb1
  clear hb1
  have hs1 := bel.size
  have hlt1 : w.heap.size < w1.heap.size := World.block_lt_of_cell? w1 _ a0
  go_wp2_with fail
  have hinv : AppInv w 5 1 (w1.heap.size + 1) [.float .f32 r, .float .f32 g, .float .f32 b] (.slice (some ⟨w1.heap.size, 0, none⟩) 0 0) 0 (digV [r, g, b] 0) ((w1.alloc (.cells #[] 5)).alloc (.cells #[.float .f32 r, .float .f32 g, .float .f32 b] 22)) := by
    refine ⟨ownsBelowC (World.ownsRow_lit w1 #[] 0 hs1 (by unfold maxLen; omega) rfl) ((Below.refl _ _).alloc (Nat.le_refl _) _), ?_, ?_, by simp, ((bel.alloc hs1 _).alloc (by simp; omega) _)⟩
    · intro j hj
      match j, hj with
      | 0, _ => go_simp
      | 1, _ => go_simp
      | 2, _ => go_simp
    · simp [Value.ownBlock]
  clear a0 a1 a2
  go_loopw [3, 18] (fun v i wr => ∃ k : Nat, k ≤ 3 ∧ i = .int .i64 k ∧ AppInv w 5 1 (w1.heap.size + 1) [.float .f32 r, .float .f32 g, .float .f32 b] v k (digV [r, g, b] k) wr) (fun _ i _ => 3 - (intOf i).toNat)
  case atStart => exact ⟨0, Nat.zero_le _, rfl, hinv⟩
  case round =>
    clear hinv
    obtain ⟨k, hk, rfl, hv⟩ := hrel
    by_cases hlt : k < 3
    · obtain ⟨x, hp, hd, hx0⟩ := PL.out k hlt
      have c0 : wr.cell? ⟨w1.heap.size + 1, k, none⟩ = some (.float .f32 x) := (hv.all k hlt).trans hx0
      have hm := fun t w => run_ok (P := Try.prog) .mul t x w16 _ (mul_fin (part_fin hp) fin_16) w
      have hcv := cvt16 hp
      generalize wordP (isNeg x ^^ isNeg w16) (mv (rg x) * mv (rg w16)) = y at hm hcv
      have hmn := fun ts t w => min_dig ts t x w
      have hix := fun w => idx_hex w (dig_le x)
      have HD := hide hd
      have hv2 := hv.below ((Below.refl wr.heap.size wr).alloc (Nat.le_refl _) (.cells #[.int .u8 ((hx (dig x)).toNat : Int)] 5))
      clear hd hx0 hp
      go_wp2_with (at_builtin; refine wpList_append_lies _ rfl _ _ 40 rfl w.heap.size 5 i0 (.int .u8 0) 1 1 Try.underlying40 hi hz0 hz1 hz2 rfl (by decide) _ _ _ rfl hv2.own ⟨wr.heap.size, 0, none⟩ 1 1 [.int .u8 ((hx (dig x)).toNat : Int)] rfl rfl ?c1 ?c2 (by omega) ?c3 ?c4 ?c5 _ rfl ?_)
      case c1 =>
        intro j u hj
        match j, hj with
        | 0, hj => simp at hj; subst hj; simp only [Addr.add]; go_simp
      case c2 => intro u hu; simp at hu; rcases hu with rfl; rfl
      case c3 => unfold maxLen; omega
      case c4 => omega
      case c5 => have := hv2.bel.size; exact this
      intro g' cap' w2 hown' hgrow hat _
      have hn := hv2.add hown' hgrow (by simpa using hat)
      rw [← HD.out] at hn
      clear hown' hgrow hat hv2 hm hcv hmn hix
      go_wp2_with fail
      go_roundw
      case rel => exact ⟨k + 1, by omega, by go_num, hn⟩
      case measure => simp [intOf]; omega
    · obtain rfl : k = 3 := by omega
      obtain ⟨gb, cap, rfl, hg1, hg2⟩ := hv.own.form (by decide)
      have hcv : ∀ w0 : World, w0 = wr → (convert 40 9 (.slice (some ⟨gb, 0, none⟩) 3 cap)).run Try.prog w0 = .ok (.string ⟨#[hx (dig r), hx (dig g), hx (dig b)]⟩) w0 := by
        rintro w0 rfl
        have := run_convert_bytes_arg (P := Try.prog) w0 40 5 Try.underlying40 Try.underlying5 gb 0 3 cap [((hx (dig r)).toNat : Int), ((hx (dig g)).toNat : Int), ((hx (dig b)).toNat : Int)] rfl (fun i hi => by
          have e := hv.own.cellAt i (by omega)
          rw [Nat.zero_add, e]
          match i, hi with
          | 0, _ => rfl
          | 1, _ => rfl
          | 2, _ => rfl) 9 Try.underlying9
        rw [HE.out] at this
        exact this
      have hcv := hcv wr rfl
      have bel := hv.bel
      clear hv
      go_wp2_with fail
      go_ret
      exact ⟨rfl, bel⟩

end Go.Proofs.Ytenpbnojabhlkaa
