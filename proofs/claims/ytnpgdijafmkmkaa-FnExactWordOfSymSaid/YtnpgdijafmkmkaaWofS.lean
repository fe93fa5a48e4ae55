/- What the reference's WordOfSym computes. For all kinds and symmetries. -/
import Derived.Test.YtnpgdijafmkmkaaWofSP
import Derived.Test.YtnpgdijafmkmkaaWof
namespace Go.Proofs.Ytnpgdijafmkmkaa
open Go.RowKit Go.Sort

set_option maxRecDepth 100000 in
set_option maxHeartbeats 4000000 in
theorem sWordOfSym_any (kind t : Int) (f : Bool) (w : World) :
    Calls Try.prog 42 #[.int .i64 kind, .agg #[.int .i64 t, .bool f]] w (RetWof w (ansS kind t f)) := by
  have g0 : (w.alloc (.cells #[.int .i64 t, .bool f] 26)).cell? ⟨w.heap.size, 0, none⟩ = some (.int .i64 t) := by go_simp
  have g1 : (w.alloc (.cells #[.int .i64 t, .bool f] 26)).cell? ⟨w.heap.size, 1, none⟩ = some (.bool f) := by go_simp
  have bel : Below w.heap.size w (w.alloc (.cells #[.int .i64 t, .bool f] 26)) := (Below.refl _ _).alloc (Nat.le_refl _) _
  go_enter Try.func42, Try.ntmps42
  go_upto_region 1 with fail
  generalize w.alloc (.cells #[.int .i64 t, .bool f] 26) = w2 at g0 g1 bel ⊢
  go_wp2_with fail
  have hx0 : OwnWs w2.heap.size ((w2.alloc (.cells #[] 3)).alloc (.cells #[.slice (some ⟨w2.heap.size, 0, none⟩) 0 0] 42)) (.slice (some ⟨w2.heap.size + 1, 0, none⟩) 1 1) (levS kind 0) := by
    have r1 : (w2.alloc (.cells #[] 3)).ownsRow w2.heap.size 3 1 (.slice (some ⟨w2.heap.size, 0, none⟩) 0 0) 0 [] := World.ownsRow_lit w2 #[] 0 (Nat.le_refl _) (by unfold maxLen; omega) rfl
    have r2 := World.ownsRow_lit (w2.alloc (.cells #[] 3)) (base := w2.heap.size) (e := 42) (size := 1) #[.slice (some ⟨w2.heap.size, 0, none⟩) 0 0] 1 (by simp) (by unfold maxLen; omega) rfl
    have hs : (w2.alloc (.cells #[] 3)).heap.size = w2.heap.size + 1 := by simp
    rw [hs] at r2
    refine ⟨[.slice (some ⟨w2.heap.size, 0, none⟩) 0 0], rfl, r2, fun i u hu => ?_⟩
    match i, hu with
    | 0, hu =>
      simp [levS] at hu
      subst hu
      exact ⟨_, rfl, ownsBelowW r1 ((Below.refl _ _).alloc (Nat.le_refl _) _)⟩
    | i + 1, hu => simp [levS] at hu
  have hb0 : Below w2.heap.size w2 ((w2.alloc (.cells #[] 3)).alloc (.cells #[.slice (some ⟨w2.heap.size, 0, none⟩) 0 0] 42)) := ((Below.refl _ _).alloc (Nat.le_refl _) _).alloc (by simp) _
  generalize (w2.alloc (.cells #[] 3)).alloc (.cells #[.slice (some ⟨w2.heap.size, 0, none⟩) 0 0] 42) = wZ at hx0 hb0 ⊢
  generalize Value.slice (some ⟨w2.heap.size + 1, 0, none⟩) 1 1 = X0 at hx0 ⊢
  go_loopw [6, 7] (fun x i wr => ∃ d : Nat, d ≤ 5 ∧ i = .int .i64 d ∧ OwnWs w2.heap.size wr x (levS kind d) ∧ Hid ((lowsS kind d).find? (mtS kind t f) = none) ∧ Below w2.heap.size w2 wr) (fun _ i _ => 5 - (intOf i).toNat)
  case atStart => exact ⟨0, by omega, rfl, hx0, rfl, hb0⟩
  case round =>
    clear hx0 hb0
    obtain ⟨d, hd5, rfl, hws, hlow, hbw⟩ := hrel
    by_cases hd4 : d ≤ 4
    · obtain ⟨aw, cw, rfl, hat⟩ := hws.at
      have hN32 : (levS kind d).length ≤ 32 := Nat.le_trans (levS_size kind d) (Nat.le_trans (Nat.pow_le_pow_right (by omega) hd5) (by decide))
      have HLN := hide (fun u (hu : u ∈ levS kind d) => levS_len d hu)
      generalize hN : (levS kind d).length = N at hN32 ⊢
      have HN := hide hN
      have HAT := hide hat
      have hI4 : (d : Int) ≤ 4 := by omega
      have hB4 : decide ((d : Int) ≤ 4) = true := decide_eq_true hI4
      clear hN hat hws
      obtain ⟨wL, hwL⟩ : ∃ q, q = wr := ⟨_, rfl⟩
      subst hwL
      go_wp2_with fail
      have hy0 : OwnWs wL.heap.size (wL.alloc (.cells #[] 42)) (.slice (some ⟨wL.heap.size, 0, none⟩) 0 0) (((levS kind d).take 0).flatMap (extS kind)) :=
        ⟨[], rfl, World.ownsRow_lit wL #[] 0 (Nat.le_refl _) (by unfold maxLen; omega) rfl, fun i u hu => by simp at hu⟩
      have hc0 : Below wL.heap.size wL (wL.alloc (.cells #[] 42)) := (Below.refl _ _).alloc (Nat.le_refl _) _
      generalize wL.alloc (.cells #[] 42) = wY at hy0 hc0 ⊢
      generalize Value.slice (some ⟨wL.heap.size, 0, none⟩) 0 0 = Y0 at hy0 ⊢
      go_loopw [8, 23] (fun y i w' => ∃ k : Nat, k ≤ N ∧ i = .int .i64 k ∧ OwnWs wL.heap.size w' y (((levS kind d).take k).flatMap (extS kind)) ∧ Hid (((levS kind d).take k).find? (mtS kind t f) = none) ∧ Below wL.heap.size wL w') (fun _ i _ => N - (intOf i).toNat)
      case atStart => exact ⟨0, Nat.zero_le _, rfl, hy0, rfl, hc0⟩
      case round =>
        clear hy0 hc0
        obtain ⟨k, hk, rfl, hys, hnone, hbr⟩ := hrel
        by_cases hlt : k < N
        · obtain ⟨u, hu⟩ : ∃ u, (levS kind d)[k]? = some u := ⟨_, List.getElem?_eq_getElem (by rw [HN.out]; exact hlt)⟩
          obtain ⟨gw, xu, rfl, hcell, hxu⟩ := HAT.out k u hu
          have hul : u.length = d := HLN.out u (List.mem_of_getElem? hu)
          have HUL := hide hul
          have hcell := keepc hbr hcell
          have hxo := hxu
          have hxu := ownsBelowW hxu hbr
          obtain ⟨au, cu, rfl, hru⟩ := readsI_of_own hxu
          have SW := hide (l1Word_any kind au u.length cu u _ hru)
          have HUK := hide hu
          have HXU := hide hxu
          have hmt : Hid (mtS kind t f u = ((l1W kind u).2 && eqS2 (l1W kind u).1.1 (l1W kind u).1.2 t f)) := rfl
          have hes : Hid (extS kind u = if (l1W kind u).2 then extq 2 u else []) := rfl
          obtain ⟨⟨⟨T, F⟩, ok⟩, hlw⟩ : ∃ q, l1W kind u = q := ⟨_, rfl⟩
          rw [hlw] at SW hmt hes
          have HXL := hide (show OwnW w2.heap.size wL (.slice au u.length cu) u from hxo)
          rw [hul] at SW HXU hcell
          clear hu hxu hxo hru hul hlw
          have hbw2 := belowOf hbw hbr
          go_wp2_with fail
          with_reducible refine SW.out.mono ?_
          rintro e w3 ⟨rfl, nb⟩
          have hys := hys.below nb
          have hbr := belowOf hbr nb
          have hXU := ownsBelowW HXU.out nb
          clear nb SW HXU hcell
          have hg0 := keepc (belowOf hbw hbr) g0
          have hg1 := keepc (belowOf hbw hbr) g1
          have hgl : w.heap.size < w3.heap.size := World.block_lt_of_cell? w3 _ hg0
          have nb : Below w3.heap.size w3 (w3.alloc (.cells #[.int .i64 T, .bool F] 26)) := (Below.refl _ _).alloc (Nat.le_refl _) _
          go_upto_region 10 with fail
          have hys := hys.below nb
          have hbr := belowOf hbr nb
          have hXU := ownsBelowW hXU nb
          have hh0 : (w3.alloc (.cells #[.int .i64 T, .bool F] 26)).cell? ⟨w3.heap.size, 0, none⟩ = some (.int .i64 T) := by go_simp
          have hh1 : (w3.alloc (.cells #[.int .i64 T, .bool F] 26)).cell? ⟨w3.heap.size, 1, none⟩ = some (.bool F) := by go_simp
          have hg0 := keepc nb hg0
          have hg1 := keepc nb hg1
          generalize w3.alloc (.cells #[.int .i64 T, .bool F] 26) = w4 at hys hbr hXU hh0 hh1 hg0 hg1 ⊢
          clear nb hgl
          cases ok
          · have hpf : mtS kind t f u = false := hmt.out
            have hnone2 := hide (find_snoc hnone.out HUK.out hpf)
            have hE : extS kind u = [] := hes.out
            have hy2 : OwnWs wL.heap.size w4 u8 (((levS kind d).take (k + 1)).flatMap (extS kind)) := by
              rw [← extS_next HUK.out, hE, List.append_nil]
              exact hys
            have HY2 := hide hy2
            clear hmt hpf hnone hes hE hys hy2 hXU
            go_wp2_with fail
            go_loopw [8, 13] (fun y j w' => y = u8 ∧ j = .int .i64 0 ∧ w' = w4) (fun _ _ _ => 0)
            case atStart => exact ⟨rfl, rfl, rfl⟩
            case round =>
              obtain ⟨rfl, rfl, rfl⟩ := hrel
              go_wp2_with fail
              go_roundw
              case rel => exact ⟨k + 1, by omega, by go_num, HY2.out, hnone2, hbr⟩
              case measure => simp [intOf]; omega
          · cases hq : eqS2 T F t f
            · have hpf : mtS kind t f u = false := hmt.out.trans hq
              have hnone2 := hide (find_snoc hnone.out HUK.out hpf)
              have hE : extS kind u = extq 2 u := hes.out
              have HE := hide hE
              clear hmt hpf hnone hes hE
              go_wp2_with fail
              have hz0 : OwnWs wL.heap.size w4 u8 (((levS kind d).take k).flatMap (extS kind) ++ extq 0 u) := by
                have e : extq 0 u = [] := rfl
                rw [e, List.append_nil]
                exact hys
              have HN32 := hide hN32
              clear hys hXU hh0 hh1 hg0 hg1
              go_loopw [8, 13] (fun y j w' => ∃ q : Nat, q ≤ 2 ∧ j = .int .i64 q ∧ OwnWs wL.heap.size w' y (((levS kind d).take k).flatMap (extS kind) ++ extq q u) ∧ Below wL.heap.size wL w') (fun _ j _ => 2 - (intOf j).toNat)
              case atStart => exact ⟨0, Nat.zero_le _, rfl, hz0, hbr⟩
              case round =>
                clear hz0
                obtain ⟨q, hq2, rfl, hys, hb5⟩ := hrel
                have hwx : Below w4.heap.size w4 w4 := Below.refl _ _
                by_cases hltq : q < 2
                · have hq2i : (q : Int) < 2 := by omega
                  have hq2b : decide ((q : Int) < 2) = true := decide_eq_true hq2i
                  have hOU : OwnW w2.heap.size wr (.slice au d cu) u := by
                    have h := ownsBelowW HXL.out hb5
                    rw [HUL.out] at h
                    unfold OwnW
                    rw [HUL.out]
                    exact h
                  have hlen := partS_len (kind := kind) (u := u) k (by rw [HN.out]; exact HN32.out) (Nat.le_of_lt hltq)
                  generalize hwsq : ((levS kind d).take k).flatMap (extS kind) ++ extq q u = ws at hys hlen
                  have HWS := hide hwsq
                  clear hwsq
                  obtain ⟨iI, hiI, hzI0, hzI1, hzI2⟩ := infoPartsW Try.infoInt
                  obtain ⟨iW, hiW, hzW0, hzW1, hzW2⟩ := infoPartsW Try.infoWord
                  have hu4 : u.length ≤ 4 := by have := HUL.out; omega
                  have CL := hide (l1Ints_any wr _ _ u hOU (by omega))
                  have hbL := hb5
                  clear hOU
                  go_wp2_with fail
                  with_reducible refine CL.out.mono ?_
                  rintro e w6 ⟨v1, rfl, hO1, nb⟩
                  have nb6 := nb
                  have nbx : Below w6.heap.size w6 (w6.alloc (.cells #[.int .i64 (q : Int)] 3)) := (Below.refl _ _).alloc (Nat.le_refl _) _
                  have hO1x := ownsBelowW hO1 nbx
                  have nb6x := belowOf nb6 nbx
                  clear CL hO1 nb
                  go_wp2_with (at_builtin; refine wpList_append_lies _ rfl _ _ 42 rfl wr.heap.size 3 iI (.int .i64 0) 1 8 Try.underlying42 hiI hzI0 hzI1 hzI2 rfl (by decide) _ _ _ rfl hO1x ⟨w6.heap.size, 0, none⟩ 1 1 [.int .i64 (q : Int)] rfl rfl ?c1 ?c2 (by omega) ?c3 ?c4 ?c5 _ rfl ?_)
                  case c1 =>
                    intro j u hj
                    match j, hj with
                    | 0, hj => simp at hj; subst hj; simp only [Addr.add]; go_simp
                  case c2 => intro u hu; simp at hu; subst hu; rfl
                  case c3 => unfold maxLen; omega
                  case c4 => omega
                  case c5 => exact nb6x.size
                  intro g' cap' w7 hown' hgrow hat' _
                  have nb7 := nb6x.grown hgrow nb6x.size (fun q hq => (hO1x.lt q hq).1)
                  have hx7 : OwnW wr.heap.size w7 (.slice (some ⟨g', 0, none⟩) (u.length + 1) cap') (u ++ [(q : Int)]) := by
                    unfold OwnW
                    rw [List.length_append, List.map_append]
                    exact hown'
                  clear hown' hgrow hat' hO1x nb6x nb6 nbx
                  have nb8 : Below w7.heap.size w7 (w7.alloc (.cells #[.slice (some ⟨g', 0, none⟩) (u.length + 1) cap'] 42)) := (Below.refl _ _).alloc (Nat.le_refl _) _
                  have hys8 := (hys.below nb7).below nb8
                  have hx8 : OwnW wL.heap.size _ _ _ := ownsBaseW (ownsBelowW hx7 nb8) hbL.size
                  have hb8 := belowOf hbL (belowOf nb7 nb8)
                  obtain ⟨vs, h0, h1, h2⟩ := hys8
                  clear hys hx7
                  go_wp2_with (at_builtin; refine wpList_append_lies _ rfl _ _ 69 rfl wL.heap.size 42 iW (.slice none 0 0) 1 24 Try.underlying69 hiW hzW0 hzW1 hzW2 rfl (by decide) _ _ _ rfl h1 ⟨w7.heap.size, 0, none⟩ 1 1 [.slice (some ⟨g', 0, none⟩) (u.length + 1) cap'] rfl rfl ?c1 ?c2 (by omega) ?c3 ?c4 ?c5 _ rfl ?_)
                  case c1 =>
                    intro j u hj
                    match j, hj with
                    | 0, hj => simp at hj; subst hj; simp only [Addr.add]; go_simp
                  case c2 => intro u hu; simp at hu; subst hu; rfl
                  case c3 => unfold maxLen; omega
                  case c4 => omega
                  case c5 => exact hb8.size
                  intro g9 cap9 w9 hown9 hgrow9 hat9 _
                  have hn9 := OwnWs.snoc h0 h1 h2 hx8 hown9 hgrow9
                  have hn10 : OwnWs wL.heap.size w9 (.slice (some ⟨g9, 0, none⟩) (ws.length + 1) cap9) (((levS kind d).take k).flatMap (extS kind) ++ extq (q + 1) u) := by
                    rw [extq_succ, ← List.append_assoc, HWS.out]
                    exact hn9
                  have hb9 := hb8.grown hgrow9 hb8.size (fun q hq => (h1.lt q hq).1)
                  clear hown9 hgrow9 hat9 h0 h1 h2 hx8 hb8 hn9
                  go_wp2_with fail
                  go_roundw
                  case rel => exact ⟨q + 1, by omega, by go_num, hn10, hb9⟩
                  case measure => simp [intOf]; omega

                · obtain rfl : q = 2 := by omega
                  have hy2 := hys
                  rw [← HE.out, extS_next HUK.out] at hy2
                  have hbr2 := hb5
                  clear hys
                  go_wp2_with fail
                  go_roundw
                  case rel => exact ⟨k + 1, by omega, by go_num, hy2, hnone2, hbr2⟩
                  case measure => simp [intOf]; omega
            · have hpt : mtS kind t f u = true := hmt.out.trans hq
              have HA := hide (ansS_at hd4 hlow.out hnone.out HUK.out hpt)
              clear hmt hpt hnone
              go_wp2_with fail
              have hbel := belowOf bel (belowOf hbw hbr)
              have hO : OwnW w.heap.size w4 (.slice au d cu) u := by
                unfold OwnW
                rw [HUL.out]
                exact ownsBaseW hXU bel.size
              have hE : ansS kind t f = some u := HA.out
              rw [hE]
              refine bodyPost_ret (v := .tuple #[.slice au d cu, .bool true]) (by simp [results, Try.results42, go_sem]) rfl ⟨_, rfl, hO, hbel⟩
        · obtain rfl : k = N := by omega
          have hnone2 := hnone.out
          rw [show (levS kind d).take k = levS kind d from List.take_of_length_le (by rw [HN.out]; exact Nat.le_refl _)] at hnone2 hys
          have hlow1 := hide (lowS_next hlow.out hnone2)
          have hys2 := hys.base hbw.size
          have hbw2 := belowOf hbw hbr
          clear hys hnone hnone2 hlow HAT HLN
          go_wp2_with fail
          go_roundw
          case rel => exact ⟨d + 1, by omega, by go_num, hys2, hlow1, hbw2⟩
          case measure => simp [intOf]; omega
    · obtain rfl : d = 5 := by omega
      have hE : ansS kind t f = none := hlow.out
      have HE := hide hE
      have hlit : OwnW w.heap.size (wr.alloc (.cells #[] 3)) (.slice (some ⟨wr.heap.size, 0, none⟩) 0 0) [] := World.ownsRow_lit wr #[] 0 (by have := bel.size; have := hbw.size; omega) (by unfold maxLen; omega) rfl
      have hbel := (belowOf bel hbw).alloc (belowOf bel hbw).size (.cells #[] 3)
      clear hE hws hlow
      go_wp2_with fail
      rw [HE.out]
      refine bodyPost_ret (v := .tuple #[.slice (some ⟨wr.heap.size, 0, none⟩) 0 0, .bool false]) (by simp [results, Try.results42, go_sem]) rfl ⟨_, rfl, hlit, hbel⟩

end Go.Proofs.Ytnpgdijafmkmkaa
