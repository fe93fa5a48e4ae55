/- Plain: words one behind the other, shortest words, the parity of words. Condition: letters of the kind. -/
import Derived.Test.YtnpgdijafmkmkaaBfsP
namespace Go.Proofs.Ytnpgdijafmkmkaa
open Go.RowKit

def thB (a b c : Nat) (f g h : Bool) : Bool :=
  (thT (thT a b g) c h == thT a (thT b c h) (thF b g c h)) && (thF (thT a b g) (thF a f b g) c h == thF a f (thT b c h) (thF b g c h)) && (thT 0 a f == (a : Int)) && (thF 0 false a f == f)
theorem th_all : ∀ a, a < 4 → ∀ b, b < 4 → ∀ c, c < 4 → ∀ f g h : Bool, thB a b c f g h = true := by decide +kernel

theorem win_nat2 {t : Int} (h : win t 0 3 = true) : ∃ n : Nat, t = (n : Int) ∧ n < 4 := by
  obtain ⟨h0, h3⟩ := win_iff.1 h
  exact ⟨t.toNat, by omega, by omega⟩

theorem thS_assoc {g h k : Int × Bool} (h1 : win g.1 0 3 = true) (h2 : win h.1 0 3 = true) (h3 : win k.1 0 3 = true) : thS (thS g h) k = thS g (thS h k) := by
  obtain ⟨t1, f1⟩ := g
  obtain ⟨t2, f2⟩ := h
  obtain ⟨t3, f3⟩ := k
  simp only at h1 h2 h3
  obtain ⟨a, rfl, ha⟩ := win_nat2 h1
  obtain ⟨b, rfl, hb⟩ := win_nat2 h2
  obtain ⟨c, rfl, hc⟩ := win_nat2 h3
  have q := th_all a ha b hb c hc f1 f2 f3
  unfold thB at q
  simp only [Bool.and_eq_true, beq_iff_eq] at q
  unfold thS
  simp only
  rw [q.1.1.1, q.1.1.2]

theorem thS_none {g : Int × Bool} (h1 : win g.1 0 3 = true) : thS (0, false) g = g := by
  obtain ⟨t1, f1⟩ := g
  simp only at h1
  obtain ⟨a, rfl, ha⟩ := win_nat2 h1
  have q := th_all a ha 0 (by omega) 0 (by omega) f1 false false
  unfold thB at q
  simp only [Bool.and_eq_true, beq_iff_eq] at q
  unfold thS
  simp only
  rw [q.1.2, q.2]

theorem thS_win (g h : Int × Bool) : win (thS g h).1 0 3 = true := win_th g.1 h.1 h.2

/-- A word behind a symmetry is the symmetry, and then the word's. -/
theorem wordFrom_th {kind : Int} : ∀ (v : List Int) (g s : Int × Bool), win g.1 0 3 = true → wordFrom kind (0, false) v = some s → win s.1 0 3 = true ∧ wordFrom kind g v = some (thS g s) := by
  -- said of a word behind any symmetry a
  have key : ∀ (v : List Int) (a g s : Int × Bool), win a.1 0 3 = true → win g.1 0 3 = true → wordFrom kind a v = some s → win s.1 0 3 = true ∧ wordFrom kind (thS g a) v = some (thS g s) := by
    intro v
    induction v with
    | nil => intro a g s ha hg h; cases h; exact ⟨ha, rfl⟩
    | cons x v ih =>
      intro a g s ha hg h
      cases hm : mir kind x with
      | none => rw [wordFrom_none hm] at h; cases h
      | some r =>
        rw [wordFrom_some hm] at h
        have hr := mir_win hm
        obtain ⟨h1, h2⟩ := ih (thS a r) g s (thS_win a r) hg h
        refine ⟨h1, ?_⟩
        rw [wordFrom_some hm, thS_assoc hg ha hr]
        exact h2
  intro v g s hg h
  obtain ⟨h1, h2⟩ := key v (0, false) g s (by decide) hg h
  refine ⟨h1, ?_⟩
  have e : thS g (0, false) = g := by
    obtain ⟨t, f⟩ := g
    obtain ⟨a, rfl, ha⟩ := win_nat2 hg
    have : a = 0 ∨ a = 1 ∨ a = 2 ∨ a = 3 := by omega
    rcases this with rfl | rfl | rfl | rfl <;> cases f <;> decide
  rw [e] at h2
  exact h2

theorem wordFrom_app {kind : Int} : ∀ (u v : List Int) (g s : Int × Bool), wordFrom kind g u = some s → wordFrom kind g (u ++ v) = wordFrom kind s v
  | [], v, g, s, h => by cases h; rfl
  | x :: u, v, g, s, h => by
    cases hm : mir kind x with
    | none => rw [wordFrom_none hm] at h; cases h
    | some r =>
      rw [wordFrom_some hm] at h
      rw [List.cons_append, wordFrom_some hm]
      exact wordFrom_app u v _ s h

/-- Each letter is a mirror. -/
theorem mir_flip {kind x : Int} {s : Int × Bool} (h : mir kind x = some s) : s.2 = true := by
  rcases mir_cases kind x with ⟨_, _, e⟩ | ⟨_, _, e⟩ | ⟨_, _, e⟩ | ⟨_, _, e⟩ | ⟨_, _, e⟩ | ⟨e, _⟩ <;> rw [e] at h <;> cases h <;> rfl

/-- The parity of a word tells whether its symmetry flips. -/
theorem word_parity {kind : Int} : ∀ (u : List Int) (g s : Int × Bool), win g.1 0 3 = true → wordFrom kind g u = some s → s.2 = (g.2 != decide (u.length % 2 = 1))
  | [], g, s, _, h => by cases h; simp
  | x :: u, g, s, hg, h => by
    cases hm : mir kind x with
    | none => rw [wordFrom_none hm] at h; cases h
    | some r =>
      rw [wordFrom_some hm] at h
      have h1 := word_parity u (thS g r) s (thS_win g r) h
      have h2 : (thS g r).2 = !g.2 := by
        show thF g.1 g.2 r.1 r.2 = _
        unfold thF
        rw [hg, mir_win hm, mir_flip hm]
        cases g.2 <;> rfl
      rw [h1, h2, List.length_cons]
      rcases (show u.length % 2 = 0 ∨ u.length % 2 = 1 by omega) with h3 | h3
      · rw [h3, show (u.length + 1) % 2 = 1 by omega]; cases g.2 <;> rfl
      · rw [h3, show (u.length + 1) % 2 = 0 by omega]; cases g.2 <;> rfl

/-- Words of letters are among the words of their length. -/
theorem lev_mem {m : Nat} : ∀ (d : Nat) (u : List Int), u.length = d → (∀ x ∈ u, 0 ≤ x ∧ x < (m : Int)) → u ∈ lev m d
  | 0, u, h, _ => by rw [List.eq_nil_of_length_eq_zero h]; simp [lev]
  | d + 1, u, h, hu => by
    have hne : u ≠ [] := fun e => by rw [e] at h; cases h
    have e := List.dropLast_concat_getLast hne
    have h1 := lev_mem d u.dropLast (by simp [h]) (fun x hx => hu x (by rw [← e]; exact List.mem_append_left _ hx))
    obtain ⟨g0, g1⟩ := hu _ (List.getLast_mem hne)
    refine List.mem_flatMap.2 ⟨u.dropLast, h1, ?_⟩
    unfold ext
    refine List.mem_map.2 ⟨(u.getLast hne).toNat, List.mem_range.2 (by omega), ?_⟩
    rw [show (((u.getLast hne).toNat : Nat) : Int) = u.getLast hne by omega]
    exact e

theorem lev_letters {m : Nat} : ∀ (d : Nat) (u : List Int), u ∈ lev m d → ∀ x ∈ u, 0 ≤ x ∧ x < (m : Int)
  | 0, u, h, x, hx => by simp [lev] at h; subst h; cases hx
  | d + 1, u, h, x, hx => by
    obtain ⟨y, hy, hu⟩ := List.mem_flatMap.1 (show u ∈ (lev m d).flatMap (ext m) from h)
    unfold ext at hu
    obtain ⟨k, hk, rfl⟩ := List.mem_map.1 hu
    rcases List.mem_append.1 hx with hx | hx
    · exact lev_letters d y hy x hx
    · rw [List.mem_singleton.1 hx]
      have := List.mem_range.1 hk
      omega

theorem lows_mem {m : Nat} : ∀ (d : Nat) {u : List Int}, u ∈ lows m d → ∃ e, e < d ∧ u ∈ lev m e
  | 0, u, h => by cases h
  | d + 1, u, h => by
    rcases List.mem_append.1 (show u ∈ lows m d ++ lev m d from h) with h | h
    · obtain ⟨e, he, hu⟩ := lows_mem d h
      exact ⟨e, by omega, hu⟩
    · exact ⟨d, by omega, h⟩

/-- The first word found is no longer than any word with the property. -/
theorem find_short {m : Nat} {p : List Int → Bool} : ∀ (d : Nat) {s u : List Int} {e : Nat}, (lows m d).find? p = some s → e < d → u ∈ lev m e → p u = true → s.length ≤ e
  | 0, s, u, e, h, _, _, _ => by cases h
  | d + 1, s, u, e, h, he, hu, hp => by
    have h' : (lows m d ++ lev m d).find? p = some s := h
    rw [List.find?_append] at h'
    cases hl : (lows m d).find? p with
    | some s' =>
      rw [hl] at h'
      have : s' = s := by simpa using h'
      subst this
      rcases (show e < d ∨ e = d by omega) with h1 | h1
      · exact find_short d hl h1 hu hp
      · subst h1
        obtain ⟨e', he', hs'⟩ := lows_mem e (List.mem_of_find?_eq_some hl)
        rw [lev_len e' hs']
        omega
    | none =>
      rw [hl] at h'
      have h2 : (lev m d).find? p = some s := by simpa using h'
      rcases (show e < d ∨ e = d by omega) with h1 | h1
      · exfalso
        obtain ⟨q, hq⟩ := lows_tail (m := m) (e + 1) (d - (e + 1))
        rw [show e + 1 + (d - (e + 1)) = d by omega] at hq
        have hmem : u ∈ lows m d := by rw [hq]; exact List.mem_append_left _ (List.mem_append_right _ hu)
        have := List.find?_eq_none.1 hl u hmem
        exact this hp
      · subst h1
        rw [lev_len e (List.mem_of_find?_eq_some h2)]
        exact Nat.le_refl _

theorem mirs_len {kind : Int} (h0 : 0 ≤ kind) (h3 : kind ≤ 3) : ((mirs kind).length : Int) = min kind 2 := by
  rcases (show kind = 0 ∨ kind = 1 ∨ kind = 2 ∨ kind = 3 by omega) with rfl | rfl | rfl | rfl <;> decide

/-- What FnWords asks of the shortest word. -/
structure ShortOk (kind : Int) (u s : List Int) (t : Int) (f : Bool) : Prop where
  wt : wT kind s = t
  wf : wF kind s = f
  ok : wOk kind s = true
  le4 : s.length ≤ 4
  leu : s.length ≤ u.length
  par : u.length % 2 = s.length % 2

theorem short_ok {kind t : Int} {f : Bool} {u s : List Int} (h0 : 0 ≤ kind) (h3 : kind ≤ 3) (hu : ∀ x ∈ u, 0 ≤ x ∧ x < min kind 2) (hw : wordFrom kind (0, false) u = some (t, f)) (hu24 : u.length ≤ 24)
    (hs : ansI kind t f = some s) (hlet : ∀ (v : List Int), (∀ x ∈ v, 0 ≤ x ∧ x < min kind 2) → ∃ g, wordFrom kind (0, false) v = some g) : ShortOk kind u s t f := by
  have hwin := win_true h0 h3
  unfold ansI at hs
  have hp := List.find?_some hs
  obtain ⟨e, he, hmem⟩ := lows_mem 5 (List.mem_of_find?_eq_some hs)
  have hlen := lev_len e hmem
  have hsl : ∀ x ∈ s, 0 ≤ x ∧ x < min kind 2 := fun x hx => by have := lev_letters e s hmem x hx; rw [mirs_len h0 h3] at this; exact this
  obtain ⟨⟨t', f'⟩, hg⟩ := hlet s hsl
  obtain ⟨y1, y2, y3⟩ := word_yes (wordSym_good hwin (by omega) hg)
  unfold mt at hp
  rw [y1, y2, Bool.and_eq_true, beq_iff_eq, beq_iff_eq] at hp
  obtain ⟨rfl, rfl⟩ := hp
  have p1 := word_parity u (0, false) (t', f') (by decide) hw
  have p2 := word_parity s (0, false) (t', f') (by decide) hg
  refine ⟨y1, y2, y3, by omega, ?_, ?_⟩
  · by_cases hul : u.length < 5
    · have hmu : u ∈ lev (mirs kind).length u.length := lev_mem u.length u rfl (fun x hx => by rw [mirs_len h0 h3]; exact hu x hx)
      refine find_short 5 hs hul hmu ?_
      obtain ⟨z1, z2, _⟩ := word_yes (wordSym_good hwin hu24 hw)
      unfold mt
      rw [z1, z2]
      simp
    · omega
  · rw [p1] at p2
    simp only [Bool.false_bne] at p2
    have := decide_eq_decide.1 p2
    omega

/-- A mirror twice is none. -/
theorem twice_ok {kind t : Int} {f : Bool} {u : List Int} (h1 : 1 ≤ kind) (h3 : kind ≤ 3) (ht : win t 0 3 = true) (hw : wordFrom kind (0, false) u = some (t, f)) : wordFrom kind (0, false) (u ++ [0, 0]) = some (t, f) := by
  rw [wordFrom_app u [0, 0] _ _ hw]
  have hm : mir kind 0 = some (0, true) := by
    rcases (show kind = 1 ∨ kind = 2 ∨ kind = 3 by omega) with rfl | rfl | rfl <;> decide
  rw [wordFrom_some hm, wordFrom_some hm]
  show some (thS (thS (t, f) (0, true)) (0, true)) = some (t, f)
  congr 1
  obtain ⟨a, rfl, ha⟩ := win_nat2 ht
  have : a = 0 ∨ a = 1 ∨ a = 2 ∨ a = 3 := by omega
  rcases this with rfl | rfl | rfl | rfl <;> cases f <;> decide

end Go.Proofs.Ytnpgdijafmkmkaa
