/- 'append(xs, us...)' where xs is the call's own and us a word in the call's own memory. No condition but small lengths. -/
import Derived.Test.YtnpgdijafmkmkaaWords
namespace Go.Proofs.Ytnpgdijafmkmkaa
open Go.RowKit

theorem wpList_append_word (w : World) {ops : Array Oper} {rest : List Oper} {o : Oper} {a : Act} {Q : Exit → Act → World → Prop} (hgd : o.guard = none) (s x : Operand)
    (ho : o.op = .call { callee := .builtin .append, args := #[s, x], argTypes := #[42, 42] })
    (base : Nat) (v : Value) (n : Nat) (xs : List Value) (hs : a.eval s = v) (hown : w.ownsRow base 3 1 v n xs)
    (xv : Value) (u : List Int) (b2 : Nat) (hx : a.eval x = xv) (hsrc : OwnW b2 w xv u) (hu : u.length ≤ 1000) (hn : n ≤ 1000) (hbase : base ≤ w.heap.size)
    (h : ∀ v' w', w'.ownsRow base 3 1 v' (n + u.length) (xs ++ u.map (Value.int .i64)) → w.grownBy w' v.ownBlock → wpList Try.prog ops Q rest (a.put o.dst v') w') : wpList Try.prog ops Q (o :: rest) a w := by
  obtain ⟨i0, hi, hz0, hz1, hz2⟩ := infoPartsW Try.infoInt
  rcases hsrc.2 with ⟨rfl, hz⟩ | ⟨g, cap, cur, rfl, hb, hg, hnn, hm, hcz, hct⟩
  · have hu0 : u = [] := List.eq_nil_of_length_eq_zero hz
    subst hu0
    refine wpList_append_own_none hgd s x 42 ho base 3 i0 1 Try.underlying42 hi v n xs hs hown hx ?_
    exact h v w (by simpa using hown) ⟨rfl, rfl, rfl, Nat.le_refl _, fun _ _ _ => rfl⟩
  · refine wpList_append_own w hgd s x 42 ho base 3 i0 (.int .i64 0) 1 8 Try.underlying42 hi hz0 hz1 hz2 rfl (by decide) v n xs hs hown ⟨g, 0, none⟩ u.length cap (u.map (Value.int .i64)) hx (by simp) ?_ ?_ ?_ ?_ hbase (fun v' w' h1 h2 _ => h v' w' h1 h2)
    · intro j y hj
      have hj2 : j < u.length := by have := (List.getElem?_eq_some_iff.1 hj).1; simpa using this
      have e := hsrc.cellAt j (by omega)
      rw [hj] at e
      rcases Nat.eq_zero_or_pos j with rfl | hp
      · simpa [Addr.add] using e
      · simpa [Addr.add, Nat.ne_of_gt hp] using e
    · intro y hy
      obtain ⟨z, _, rfl⟩ := List.mem_map.1 hy
      rfl
    · unfold maxLen; omega
    · omega

/-- Two letters more, written out. -/
theorem readsI_own {w : World} {base : Nat} {v : Value} {u : List Int} (h : OwnW base w v u) : ∃ a cap, v = .slice a u.length cap ∧ ReadsI w a u.length cap u := readsI_of_own h

end Go.Proofs.Ytnpgdijafmkmkaa
