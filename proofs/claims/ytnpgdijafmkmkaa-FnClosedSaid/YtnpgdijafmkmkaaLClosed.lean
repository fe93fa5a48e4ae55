/- The law FnClosed: the symmetries of mirrors are a group with the mirrors in it. No condition. -/
import Derived.Test.YtnpgdijafmkmkaaClosP
import Derived.Test.YtnpgdijafmkmkaaDrawW
import Derived.Test.YtnpgdijafmkmkaaBig
namespace Go.Proofs.Ytnpgdijafmkmkaa
open Go.RowKit

theorem mir_mem {kind x : Int} (h0 : 0 ≤ kind) (h3 : kind ≤ 3) (hx : 0 ≤ x) (hx2 : x < min kind 2) : ∃ s, mir kind x = some s ∧ s ∈ symsOf kind := by
  rcases (show kind = 0 ∨ kind = 1 ∨ kind = 2 ∨ kind = 3 by omega) with rfl | rfl | rfl | rfl
  · omega
  · obtain rfl : x = 0 := by omega
    exact ⟨(0, true), by decide, by decide⟩
  · rcases (show x = 0 ∨ x = 1 by omega) with rfl | rfl
    · exact ⟨(0, true), by decide, by decide⟩
    · exact ⟨(2, true), by decide, by decide⟩
  · rcases (show x = 0 ∨ x = 1 by omega) with rfl | rfl
    · exact ⟨(0, true), by decide, by decide⟩
    · exact ⟨(1, true), by decide, by decide⟩

theorem none_mem {kind : Int} (h0 : 0 ≤ kind) (h3 : kind ≤ 3) : ((0 : Int), false) ∈ symsOf kind := by
  rcases (show kind = 0 ∨ kind = 1 ∨ kind = 2 ∨ kind = 3 by omega) with rfl | rfl | rfl | rfl <;> decide

theorem wordFrom_mem {kind : Int} (h0 : 0 ≤ kind) (h3 : kind ≤ 3) : ∀ (u : List Int) (g : Int × Bool), g ∈ symsOf kind → (∀ x ∈ u, 0 ≤ x ∧ x < min kind 2) → ∃ g', wordFrom kind g u = some g' ∧ g' ∈ symsOf kind
  | [], g, hg, _ => ⟨g, rfl, hg⟩
  | x :: u, g, hg, hu => by
    obtain ⟨s, hs, hm⟩ := mir_mem h0 h3 (hu x (by simp)).1 (hu x (by simp)).2
    obtain ⟨g', h1, h2⟩ := wordFrom_mem h0 h3 u (thS g s) (th_mem (closed_all h0 h3) hg hm) (fun y hy => hu y (by simp [hy]))
    exact ⟨g', by rw [wordFrom_some hs]; exact h1, h2⟩

theorem letters_word {kind : Int} {u : List Int} (h0 : 0 ≤ kind) (h3 : kind ≤ 3) (hu : Letters kind u) : ∃ t f, wordSym kind u = some (t, f) ∧ hasB (symsOf kind) t f = true := by
  obtain ⟨⟨t, f⟩, h1, h2⟩ := wordFrom_mem h0 h3 u (0, false) (none_mem h0 h3) hu.2
  exact ⟨t, f, wordSym_good (win_true h0 h3) (by have := hu.1; omega) h1, has_of_mem h2⟩

theorem syms_len {kind : Int} (h0 : 0 ≤ kind) (h3 : kind ≤ 3) : (kind = 0 ∧ (symsOf kind).length = 1) ∨ (kind = 1 ∧ (symsOf kind).length = 2) ∨ (kind = 2 ∧ (symsOf kind).length = 4) ∨ (kind = 3 ∧ (symsOf kind).length = 8) := by
  rcases (show kind = 0 ∨ kind = 1 ∨ kind = 2 ∨ kind = 3 by omega) with rfl | rfl | rfl | rfl <;> decide

set_option maxHeartbeats 4000000 in
theorem FnClosed_walk (a : Option Addr) (len cap : Nat) (z : List Int) (w : World) (hz : IsRow .u8 w a len cap z) :
    Calls Try.prog 12 #[.slice a len cap] w fun e w' => e = .returned (.bool true) ∧ Below w.heap.size w w' := by
  have HC := hide (isCode_of_row hz)
  have hm := (isCode_of_row hz).1
  clear hz
  by_cases hb : 4096 < len
  · go_enter Try.func12, Try.ntmps12
    go_wp2_with fail
    refine (big_any _ _ _ _).mono ?_
    rintro e w' ⟨rfl, rfl⟩
    go_wp2_with fail
    go_ret
    exact ⟨rfl, Below.refl _ _⟩
  · go_enter Try.func12, Try.ntmps12
    go_wp2_with fail
    refine (big_any _ _ _ _).mono ?_
    rintro e w' ⟨rfl, rfl⟩
    go_wp2_with fail
    refine (drawWords_any _ _ _ _ HC.out).mono ?_
    rintro e w1 ⟨kind, x, y, u, v, rfl, k0, k3, hu, hv, ox, oy, bel⟩
    obtain ⟨au, cu, rfl, ru⟩ := readsI_of_own ox
    obtain ⟨tw, fw, hws, hwm⟩ := letters_word k0 k3 hu
    have hG := grp_of (closed_all k0 k3)
    have hln := syms_len k0 k3
    clear ox oy hv hu
    have hS := fun W => symsOf_any kind W
    have hW := fun n (hn : u.length = n) a' c' W (h : ReadsI W a' n c' u) => symOfWord_any kind a' n c' u W h
    obtain ⟨e1, e2, e3⟩ := word_yes hws
    rw [e1, e2, e3] at hW
    have hW := hW _ rfl
    clear e1 e2 e3 hws
    generalize symsOf kind = l at hS hG hln hwm
    have HS := hide hS
    have HG := hide hG
    have HW := hide hW
    have HM := hide hwm
    have RU := hide ru
    clear hS hG hW hwm ru
    generalize u.length = nu at HW RU ⊢
    have hlenl : l.length ≤ 8 := by omega
    go_wp2_with fail
    refine (HS.out _).mono ?_
    rintro e w2 ⟨v1, rfl, own1, hb2⟩
    obtain ⟨al, cl, rfl, rl⟩ := readsS_of_own own1
    have RL := hide rl
    have RU := hide (RU.out.below hb2)
    have bel := belowOf bel hb2
    clear own1 hb2 rl
    generalize hn : l.length = n at RL hln hlenl ⊢
    have HN := hide hn
    clear hn
    have HLN := hide hln
    clear hln
    go_wp2_with fail
    go_loopw [7] (fun i wr => ∃ k : Nat, k ≤ n ∧ i = .int .i64 k ∧ Below w2.heap.size w2 wr) (fun i _ => n - (intOf i).toNat)
    case atStart => exact ⟨0, Nat.zero_le _, rfl, Below.refl _ _⟩
    case round =>
      obtain ⟨i, hi, rfl, hbel⟩ := hrel
      by_cases hlt : i < n
      · have RLr := hide (RL.out.below hbel)
        obtain ⟨gl, rfl⟩ : ∃ g, al = some ⟨g, 0, none⟩ := by
          rcases RL.out.2 with h0 | ⟨g, hg, _⟩
          · omega
          · exact ⟨g, hg⟩
        obtain ⟨wo, rfl⟩ : ∃ wo : World, wo = wr := ⟨_, rfl⟩
        have hat : ∀ (W : World) (k : Nat), ReadsS W (some ⟨gl, 0, none⟩) n cl l → k < n → W.cell? ⟨gl, k * 2, none⟩ = some (.int .i64 (l.getD k (0, false)).1) ∧ W.cell? ⟨gl, k * 2 + 1, none⟩ = some (.bool (l.getD k (0, false)).2) := by
          intro W k h hk
          obtain ⟨h1, h2⟩ := h
          rcases h2 with h2 | ⟨g, hg, _, _, hc⟩
          · omega
          · cases hg
            have := ReadsS.at hc h1 k hk
            rw [getD_sym (by rw [h1]; exact hk)]
            exact this
        have HAT := hide hat
        clear hat
        go_wp2_with fail
        go_loopw [8] (fun j wr => ∃ k : Nat, k ≤ n ∧ j = .int .i64 k ∧ Below wo.heap.size wo wr) (fun j _ => n - (intOf j).toNat)
        case atStart => exact ⟨0, Nat.zero_le _, rfl, Below.refl _ _⟩
        case round =>
          obtain ⟨k, hk, rfl, hbel2⟩ := hrel
          have RLi := hide (RLr.out.below hbel2)
          by_cases hltk : k < n
          · obtain ⟨x0, x1⟩ := HAT.out wr i RLi.out hlt
            obtain ⟨y0, y1⟩ := HAT.out wr k RLi.out hltk
            have HTH := hide (HG.out.th i k (by rw [HN.out]; exact hlt) (by rw [HN.out]; exact hltk))
            generalize l.getD i (0, false) = si at x0 x1 HTH
            generalize l.getD k (0, false) = sk at y0 y1 HTH
            obtain ⟨ti, fi⟩ := si
            obtain ⟨tk, fk⟩ := sk
            simp only at x0 x1 y0 y1
            have HT := hide (fun W => thenSym_any ti tk fi fk W)
            have HH := hide (fun W (h : ReadsS W (some ⟨gl, 0, none⟩) n cl l) => has_any (some ⟨gl, 0, none⟩) n cl l (thT ti tk fk) (thF ti fi tk fk) W h hlenl)
            rw [HTH.out] at HH
            generalize thT ti tk fk = T at HT HH
            generalize thF ti fi tk fk = F at HT HH
            clear HTH
            go_wp2_with fail
            go_region_held3 (fun w' => w'.cell? ⟨gl, i * 2, none⟩ = some (.int .i64 ti) ∧ w'.cell? ⟨gl, i * 2 + 1, none⟩ = some (.bool fi) ∧ w'.cell? ⟨gl, k * 2, none⟩ = some (.int .i64 tk) ∧ w'.cell? ⟨gl, k * 2 + 1, none⟩ = some (.bool fk))
              (exact ⟨keepc (by repeat (first | exact Below.refl _ _ | assumption | refine Below.drew ?_ | refine Below.setCell ?_ (by first | (dsimp only; omega) | (simp; omega) | simp) _ | refine Below.alloc ?_ (by first | omega | (simp; omega) | simp) _)) x0, keepc (by repeat (first | exact Below.refl _ _ | assumption | refine Below.drew ?_ | refine Below.setCell ?_ (by first | (dsimp only; omega) | (simp; omega) | simp) _ | refine Below.alloc ?_ (by first | omega | (simp; omega) | simp) _)) x1, keepc (by repeat (first | exact Below.refl _ _ | assumption | refine Below.drew ?_ | refine Below.setCell ?_ (by first | (dsimp only; omega) | (simp; omega) | simp) _ | refine Below.alloc ?_ (by first | omega | (simp; omega) | simp) _)) y0, keepc (by repeat (first | exact Below.refl _ _ | assumption | refine Below.drew ?_ | refine Below.setCell ?_ (by first | (dsimp only; omega) | (simp; omega) | simp) _ | refine Below.alloc ?_ (by first | omega | (simp; omega) | simp) _)) y1⟩)
              (first | (go_at_call 24; (with_reducible refine (HT.out _).mono ?_); rintro e w4 ⟨rfl, hb4⟩; have bw4 : Below wr.heap.size wr w4 := (by refine Below.trans ?_ (hb4.mono ?_); exact (by repeat (first | exact Below.refl _ _ | assumption | refine Below.drew ?_ | refine Below.alloc ?_ (by first | omega | (simp; omega) | simp) _)); first | omega | (simp; done) | (simp; omega))) | (go_at_call 40; (with_reducible refine (HH.out _ (RLi.out.below (by repeat (first | exact Below.refl _ _ | assumption | refine Below.drew ?_ | refine Below.setCell ?_ (by first | (dsimp only; omega) | (simp; omega) | simp) _ | refine Below.alloc ?_ (by first | omega | (simp; omega) | simp) _)))).mono ?_); rintro e w5 ⟨rfl, hb5⟩; have bw5 : Below wr.heap.size wr w5 := (by refine Below.trans ?_ (hb5.mono ?_); exact (by repeat (first | exact Below.refl _ _ | assumption | refine Below.drew ?_ | refine Below.setCell ?_ (by first | (dsimp only; omega) | (simp; omega) | simp) _ | refine Below.alloc ?_ (by first | omega | (simp; omega) | simp) _)); first | omega | (simp; done) | (exact bw4.size) | (have := bw4.size; simp; omega))))
            go_wp2_with fail
            go_roundw
            case rel => exact ⟨k + 1, by omega, by go_num, hbel2.trans (bw5.mono hbel2.size)⟩
            case measure => simp [intOf]; omega
          · obtain rfl : k = n := by omega
            obtain ⟨x0, x1⟩ := HAT.out wr i RLi.out hlt
            have HBK := hide (HG.out.bk i (by rw [HN.out]; exact hlt))
            have HOK := hide (HG.out.ok i (by rw [HN.out]; exact hlt))
            generalize l.getD i (0, false) = si at x0 x1 HBK HOK
            obtain ⟨ti, fi⟩ := si
            simp only at x0 x1
            have HT := hide (fun W => backSym_any ti fi W)
            have HH := hide (fun W (h : ReadsS W (some ⟨gl, 0, none⟩) k cl l) => has_any (some ⟨gl, 0, none⟩) k cl l (bkT ti fi) (bkF ti fi) W h hlenl)
            rw [HBK.out] at HH
            generalize bkT ti fi = T at HT HH
            generalize bkF ti fi = F at HT HH
            have hok : win ti 0 3 = true := HOK.out
            clear HBK HOK
            go_wp2_with fail
            refine (HT.out _).mono ?_
            rintro e w4 ⟨rfl, hb4⟩
            have bw4 : Below wr.heap.size wr w4 := by first | exact hb4 | (rw [← hb4]; exact (by repeat (first | exact Below.refl _ _ | assumption | refine Below.drew ?_ | refine Below.alloc ?_ (by first | omega | (simp; omega) | simp) _)))
            have x0 := keepc bw4 x0
            have x1 := keepc bw4 x1
            go_wp2_with fail
            refine (HH.out _ (RLi.out.below bw4)).mono ?_
            rintro e w5 ⟨rfl, hb5⟩
            have x0 := keepc hb5 x0
            have x1 := keepc hb5 x1
            have bw5 := belowOf bw4 hb5
            clear hb4 hb5
            go_wp2_with fail
            refine (isSym_any _ _ _).mono ?_
            rintro e w6 ⟨rfl, hw6⟩
            have bw6 : Below w5.heap.size w5 w6 := by rw [← hw6]; exact (by repeat (first | exact Below.refl _ _ | assumption | refine Below.drew ?_ | refine Below.alloc ?_ (by first | omega | (simp; omega) | simp) _))
            have bw6 := belowOf bw5 bw6
            clear hw6
            go_wp2_with fail
            go_roundw
            case rel => exact ⟨i + 1, by omega, by go_num, (hbel.trans (hbel2.mono hbel.size)).trans (bw6.mono (by have := hbel.size; have := hbel2.size; omega))⟩
            case measure => simp [intOf]; omega
      · obtain rfl : i = n := by omega
        have bel := bel.trans (hbel.mono bel.size)
        have RUr := hide (RU.out.below hbel)
        have RLr := hide (RL.out.below hbel)
        have HH := hide (fun W (h : ReadsS W al i cl l) => has_any al i cl l tw fw W h hlenl)
        rw [HM.out] at HH
        go_wp2_with fail
        refine (HW.out _ _ _ RUr.out).mono ?_
        rintro e w4 ⟨rfl, hb4⟩
        have bel := belowOf bel hb4
        have RLr := hide (RLr.out.below hb4)
        clear hb4
        go_wp2_with fail
        have nb : Below w4.heap.size w4 (w4.alloc (.cells #[.int .i64 tw, .bool fw] 26)) := (Below.refl _ _).alloc (Nat.le_refl _) _
        have RLr := hide (RLr.out.below nb)
        have bel := belowOf bel nb
        clear nb
        generalize w4.alloc (.cells #[.int .i64 tw, .bool fw] 26) = wC at RLr bel ⊢
        refine (HH.out _ RLr.out).mono ?_
        rintro e w5 ⟨rfl, hb5⟩
        have bel := belowOf bel hb5
        clear hb5
        rcases HLN.out with ⟨rfl, rfl⟩ | ⟨rfl, rfl⟩ | ⟨rfl, rfl⟩ | ⟨rfl, rfl⟩
        all_goals
          go_wp2_with fail
          go_ret
          exact ⟨rfl, by have := bel.size; exact (by repeat (first | exact Below.refl _ _ | assumption | refine Below.drew ?_ | refine Below.alloc ?_ (by first | omega | (simp; omega) | simp) _))⟩

open Go.ChangeShapes Go.WideShapes Go.ChangeAt Go.Joins
open Go.ChangeMaps (open_string shut_string)

set_option maxRecDepth 100000 in
theorem fnClosed_lifted (os : Os) (started : os.Started) (H : Type) (enc : TypeId × Value → H) :
    ReturnsInHanded {} Try.checked os 12 .any (Rows.fnClosedSpec.pre6 enc Try.prog Try.f12 Rows.fnClosedRow.domain false) (Rows.fnClosedSpec.post enc Try.prog Try.f12 false true false false) := by
  refine returnsInHanded_of_change (C := Try.checked) Try.own started (by kernel_rfl) Try.func12
    (ChangeSpec.witness6 (enc := enc) (C := Try.checked) false ⟨#[], #[.slice none 0 0], []⟩ 8 (by kernel_rfl) (by kernel_rfl) (by kernel_rfl) (by kernel_rfl)) ?_
  intro W base args ds gs before hval0 hW _ _
  have hval : ∀ (j : Nat) t v, Try.f12.params[j]? = some t → args[j]? = some v → Value.okWide Try.prog W .any base t v := hval0
  have hW' := hW
  obtain ⟨p, q, hA0, hV, rfl, _, _⟩ := hW
  have hA : DataW.TrodAll enc Try.prog W 0 (fun _ => true) true Try.f12.params.toList args.toList ds p := hA0
  rw [Try.params12] at hA hval
  obtain ⟨v0, vs0, d0, ds0, p0, q0, hargs, rfl, rfl, h0, r0⟩ := trodAll_cons hA
  obtain ⟨rfl, rfl, rfl⟩ := trodAll_nil r0
  obtain rfl : args = #[v0] := by cases args; simp_all
  obtain ⟨rfl, rfl⟩ := trodVars_none hV
  have k0 := h0
  have lt0 : ∀ x ∈ p0, x.block < W.heap.size := by obtain ⟨m, hm⟩ := k0; exact DataW.trod_lt m _ _ _ hm
  obtain ⟨a0, len0, cap0, rfl⟩ := okWide_slice Try.underlying47 (hval 0 47 v0 rfl rfl)
  obtain ⟨z0, w0⟩ : ∃ zs, IsRow .u8 W a0 len0 cap0 zs := by
    obtain ⟨fuel, hf⟩ := h0
    rcases open_ints Try.underlying47 Try.underlying5 (by kernel_rfl) hf with ⟨hcs, _⟩ | ⟨x, l, c, zs, hcs, _, hl, hm, hz, _, hcell, hwz⟩
    · simp [Value.cells] at hcs
      obtain ⟨rfl, rfl, rfl⟩ := hcs
      exact ⟨[], .inl ⟨rfl, rfl, rfl, rfl⟩⟩
    · simp [Value.cells] at hcs
      obtain ⟨rfl, rfl, rfl⟩ := hcs
      exact ⟨zs, .inr ⟨_, rfl, hl, hm, by simpa using hz, hcell, hwz⟩⟩
  clear hA0 hval0
  refine (FnClosed_walk a0 len0 cap0 z0 W w0).mono fun e W' ⟨he, bel⟩ => ?_
  subst he
  exact ⟨_, rfl, _, _, _, [], _, [], hW', trodAll_mk1 (shut_bool Try.underlying4 _), (trodAll_cons_mk (Below.trod Try.laidOut (by kernel_rfl) (of_decide_eq_true (by kernel_rfl)) k0 bel lt0) trodAll_mk0), rfl, bel.frame _, fun h => by cases h⟩

/-- The statement. -/
theorem fnClosed_proved : Rows.FnClosedSaid :=
  OpenClaim.holds_of_wide 12 Try.f12 rfl rfl rfl rfl rfl rfl rfl ⟨rfl, rfl, rfl, rfl, rfl⟩ rfl rfl rfl rfl rfl (by kernel_rfl) Try.func12 (by kernel_rfl)
    (of_decide_eq_true (by kernel_rfl)) (by unfold Func.isWrapper; rw [if_neg (of_decide_eq_false (by kernel_rfl))]; exact ⟨rfl, rfl⟩)
    (fun os started H enc _ => fnClosed_lifted os started H enc)
#print axioms fnClosed_proved

end Go.Proofs.Ytnpgdijafmkmkaa
