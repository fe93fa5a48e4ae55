/- What slices.Contains at symmetries and the program's WordOfSym compute. For all kinds and symmetries. -/
import Derived.Test.YtnpgdijafmkmkaaWords
import Derived.Test.YtnpgdijafmkmkaaEqS2
import Derived.Test.YtnpgdijafmkmkaaTail
import Derived.Deep.AppendLies
import Derived.Deep.LoopGhost
namespace Go.Proofs.Ytnpgdijafmkmkaa
open Go.RowKit Go.Sort

set_option maxRecDepth 100000 in
set_option maxHeartbeats 2000000 in
theorem index_any (a : Option Addr) (n cap : Nat) (l : List (Int × Bool)) (t : Int) (f : Bool) (w : World) (h : ReadsS w a n cap l) (hn : n ≤ 8) :
    Calls Try.prog 64 #[.slice a n cap, .agg #[.int .i64 t, .bool f]] w fun e w' => (∃ q : Int, e = .returned (.int .i64 q) ∧ decide (q ≥ 0) = hasB l t f) ∧ Below w.heap.size w w' := by
  have HR := hide h
  have HL := hide h.1
  clear h
  go_enter Try.func64, Try.ntmps64
  go_wp2_with fail
  have b0 : (w.alloc (.cells #[.int .i64 t, .bool f] 26)).cell? ⟨w.heap.size, 0, none⟩ = some (.int .i64 t) := by go_simp
  have b1 : (w.alloc (.cells #[.int .i64 t, .bool f] 26)).cell? ⟨w.heap.size, 1, none⟩ = some (.bool f) := by go_simp
  have bel : Below w.heap.size w (w.alloc (.cells #[.int .i64 t, .bool f] 26)) := (Below.refl _ _).alloc (Nat.le_refl _) _
  generalize w.alloc (.cells #[.int .i64 t, .bool f] 26) = wA at b0 b1 bel ⊢
  go_loopw [8] (fun i wr => ∃ k : Nat, k ≤ n ∧ i = .int .i64 k ∧ Hid (∀ j, j < k → ((l.getD j (0, false)).1 == t && (l.getD j (0, false)).2 == f) = false) ∧ Below wA.heap.size wA wr) (fun i _ => n - (intOf i).toNat)
  case atStart => exact ⟨0, Nat.zero_le _, rfl, fun j hj => by omega, Below.refl _ _⟩
  case round =>
    obtain ⟨k, hk, rfl, hno, hbel⟩ := hrel
    have b0 := keepc hbel b0
    have b1 := keepc hbel b1
    have bel := belowOf bel hbel
    by_cases hlt : k < n
    · obtain ⟨g, rfl, hg⟩ : ∃ g, a = some ⟨g, 0, none⟩ ∧ ∀ j, j < n * 2 → w.cell? ⟨g, j, none⟩ = (symCells l)[j]? := by
        rcases HR.out.2 with h0 | ⟨g, hg, _, _, hc⟩
        · omega
        · exact ⟨g, hg, hc⟩
      obtain ⟨x0, x1⟩ := ReadsS.at hg HL.out k hlt
      have x0 := keepc bel x0
      have x1 := keepc bel x1
      have hkl : k < l.length := by rw [HL.out]; exact hlt
      have hnk := hide (getD_sym hkl)
      have hyes := hide (fun e => hasB_yes hkl (t := t) (f := f) e)
      generalize l[k] = s at x0 x1 hnk hyes
      obtain ⟨T, F⟩ := s
      clear hg
      simp only at x0 x1
      have hsw : Hid ((T == t && F == f) = eqS2 t f T F) := by
        show (T == t && F == f) = (t == T && f == F)
        have e1 : (T == t) = (t == T) := by rw [Bool.eq_iff_iff]; simp only [beq_iff_eq]; exact eq_comm
        have e2 : (F == f) = (f == F) := by cases F <;> cases f <;> rfl
        rw [e1, e2]
      have hgm : g < wr.heap.size := World.block_lt_of_cell? wr _ x0
      cases hq : eqS2 t f T F
      · have hno2 : Hid (∀ j, j < k + 1 → ((l.getD j (0, false)).1 == t && (l.getD j (0, false)).2 == f) = false) := fun j hj => by
          by_cases e : j = k
          · subst e; rw [hnk.out]; exact hsw.out.trans hq
          · exact hno.out j (by omega)
        clear hno hnk hyes hsw
        go_upto_region 4 with fail
        have k_x0 := cell_regrown x0
        have k_x1 := cell_regrown x1
        have k_b0 := cell_regrown b0
        have k_b1 := cell_regrown b1
        refine wp_region_below (by kernel_rfl) (by kernel_rfl) ?_
        repeat (go_big_quiet_step (fail))
        refine wpQuiet_nil ?_
        intro w3 nb
        clear k_x0 k_x1 k_b0 k_b1
        have nbk := nb
        have bel := belowOf bel nb
        clear nb
        have hb3 : Below wA.heap.size wA w3 := belowOf hbel nbk
        go_wp2_with fail
        go_roundw
        case rel => exact ⟨k + 1, by omega, by go_num, hno2, hb3⟩
        case measure => simp [intOf]; omega
      · have HY := hide (hyes.out (hsw.out.trans hq))
        clear hno hnk hyes hsw
        go_upto_region 4 with fail
        have k_x0 := cell_regrown x0
        have k_x1 := cell_regrown x1
        have k_b0 := cell_regrown b0
        have k_b1 := cell_regrown b1
        refine wp_region_below (by kernel_rfl) (by kernel_rfl) ?_
        repeat (go_big_quiet_step (fail))
        refine wpQuiet_nil ?_
        intro w3 nb
        clear k_x0 k_x1 k_b0 k_b1
        have nbk := nb
        have bel := belowOf bel nb
        clear nb
        go_wp2_with fail
        go_ret
        exact ⟨⟨(k : Int), rfl, by rw [HY.out]; simp⟩, bel⟩
    · obtain rfl : k = n := by omega
      have HN := hide (hasB_no (l := l) (t := t) (f := f) (fun j hj => hno.out j (by rw [HL.out] at hj; exact hj)))
      go_wp2_with fail
      go_ret
      exact ⟨⟨-1, rfl, by rw [HN.out]; rfl⟩, bel⟩

/-- Whether a symmetry is in a list. -/
theorem contains_any (a : Option Addr) (n cap : Nat) (l : List (Int × Bool)) (t : Int) (f : Bool) (w : World) (h : ReadsS w a n cap l) (hn : n ≤ 8) :
    Calls Try.prog 58 #[.slice a n cap, .agg #[.int .i64 t, .bool f]] w fun e w' => e = .returned (.bool (hasB l t f)) ∧ Below w.heap.size w w' := by
  have HX := hide (fun W (hb : Below w.heap.size w W) => index_any a n cap l t f W (h.below hb) hn)
  clear h
  generalize hasB l t f = R at HX ⊢
  go_enter Try.func58, Try.ntmps58
  go_wp2_with fail
  have nb : Below w.heap.size w (w.alloc (.cells #[.int .i64 t, .bool f] 26)) := (Below.refl _ _).alloc (Nat.le_refl _) _
  refine (HX.out _ nb).mono ?_
  rintro e w1 ⟨⟨q, rfl, hq⟩, hb1⟩
  have bel := belowOf nb hb1
  clear hb1 nb HX
  have hq' : decide (0 ≤ q) = R := hq
  go_wp2_with fail
  go_ret
  exact ⟨by rw [← hq]; rfl, bel⟩

/-- The word of a symmetry, as the program has it. -/
def RetWof (w : World) (o : Option (List Int)) (e : Ending) (w' : World) : Prop :=
  ∃ v, e = .returned (.tuple #[v, .bool o.isSome]) ∧ OwnW w.heap.size w' v (o.getD []) ∧ Below w.heap.size w w'

set_option maxRecDepth 100000 in
set_option maxHeartbeats 4000000 in
theorem wordOfSym_any (kind t : Int) (f : Bool) (w : World) :
    Calls Try.prog 41 #[.int .i64 kind, .agg #[.int .i64 t, .bool f]] w (RetWof w (if hasB (symsOf kind) t f then ansI kind t f else none)) := by
  have g0 : (w.alloc (.cells #[.int .i64 t, .bool f] 26)).cell? ⟨w.heap.size, 0, none⟩ = some (.int .i64 t) := by go_simp
  have g1 : (w.alloc (.cells #[.int .i64 t, .bool f] 26)).cell? ⟨w.heap.size, 1, none⟩ = some (.bool f) := by go_simp
  have bel : Below w.heap.size w (w.alloc (.cells #[.int .i64 t, .bool f] 26)) := (Below.refl _ _).alloc (Nat.le_refl _) _
  have hle := symsOf_le kind
  have CT := hide (fun a cap W (h : ReadsS W a (symsOf kind).length cap (symsOf kind)) => contains_any a (symsOf kind).length cap (symsOf kind) t f W h hle)
  have HANS := hide (fun (h : hasB (symsOf kind) t f = true) => ans_some h)
  have HK := hide (fun (h : hasB (symsOf kind) t f = true) => hasB_kind h)
  cases hh : hasB (symsOf kind) t f
  all_goals
    rw [hh] at CT HANS HK
    clear hh hle
    simp only [if_true, if_false, Bool.false_eq_true]
    go_enter Try.func41, Try.ntmps41
    go_upto_region 1 with fail
    generalize w.alloc (.cells #[.int .i64 t, .bool f] 26) = wA at g0 g1 bel ⊢
    go_region_held3 (fun w' => w'.cell? ⟨w.heap.size, 0, none⟩ = some (.int .i64 t) ∧ w'.cell? ⟨w.heap.size, 1, none⟩ = some (.bool f))
      ((refine (show Below wA.heap.size wA _ → _ from fun hk => ⟨keepc hk g0, keepc hk g1⟩) ?_; first | (with_reducible exact Below.refl _ _) | (with_reducible exact (Below.refl _ _).drew) | (with_reducible exact bw1) | (with_reducible exact bw1.drew) | (with_reducible exact bw2) | (with_reducible exact bw2.drew)))
      (first | (go_at_call 28; (with_reducible refine (symsOf_any kind _).mono ?_); rintro e w1 ⟨vS, rfl, hownS, hb1⟩; obtain ⟨aS, cS, rfl, hrS⟩ := readsS_of_own hownS; have bw1 := belowOf (w := wA) (by first | (with_reducible exact Below.refl _ _) | (with_reducible exact (Below.refl _ _).drew) | (with_reducible exact ((Below.refl _ _).alloc (Nat.le_refl _) _)) | (with_reducible exact ((Below.refl _ _).alloc (Nat.le_refl _) _).drew) | (with_reducible exact ((Below.refl _ _).drew.alloc (Nat.le_refl _) _))) hb1; clear hownS hb1) | (go_at_call 58; (with_reducible refine (CT.out _ _ _ (hrS.below (by first | (with_reducible exact Below.refl _ _) | (with_reducible exact (Below.refl _ _).drew) | (with_reducible exact ((Below.refl _ _).alloc (Nat.le_refl _) _)) | (with_reducible exact ((Below.refl _ _).alloc (Nat.le_refl _) _).drew) | (with_reducible exact ((Below.refl _ _).drew.alloc (Nat.le_refl _) _))))).mono ?_); rintro e w2 ⟨rfl, hb2⟩; have bw2 := belowOf bw1 (belowOf (w := w1) (by first | (with_reducible exact Below.refl _ _) | (with_reducible exact (Below.refl _ _).drew) | (with_reducible exact ((Below.refl _ _).alloc (Nat.le_refl _) _)) | (with_reducible exact ((Below.refl _ _).alloc (Nat.le_refl _) _).drew) | (with_reducible exact ((Below.refl _ _).drew.alloc (Nat.le_refl _) _))) hb2); clear hb2))
  · have bel := belowOf bel bw2
    have hO : OwnW w.heap.size w2 (.slice none 0 0) [] := ⟨rfl, .inl ⟨rfl, rfl⟩⟩
    go_wp2_with fail
    go_ret2
    exact ⟨_, rfl, hO, bel⟩
  · have bel := belowOf bel bw2
    have g0 := keepc bw2 g0
    have g1 := keepc bw2 g1
    clear bw1 bw2 hrS
    obtain ⟨ua, hua⟩ := HANS.out trivial
    obtain ⟨k0, k3⟩ := HK.out trivial
    have HU := hide hua
    unfold ansI at hua
    have hm2 := mirs_le kind
    have LT := hide (fun W => letters_any kind W)
    have ML := hide (fun c (hc : c < (mirs kind).length) => hc)
    generalize hmm : (mirs kind).length = m at hua hm2
    have HM := hide hmm
    have HUA := hide hua
    clear CT HANS HK hmm hua ML
    go_wp2_with fail
    have hx0 : OwnWs w2.heap.size ((w2.alloc (.cells #[] 3)).alloc (.cells #[.slice (some ⟨w2.heap.size, 0, none⟩) 0 0] 42)) (.slice (some ⟨w2.heap.size + 1, 0, none⟩) 1 1) (lev m 0) := by
      have r1 : (w2.alloc (.cells #[] 3)).ownsRow w2.heap.size 3 1 (.slice (some ⟨w2.heap.size, 0, none⟩) 0 0) 0 [] := World.ownsRow_lit w2 #[] 0 (Nat.le_refl _) (by unfold maxLen; omega) rfl
      have r2 := World.ownsRow_lit (w2.alloc (.cells #[] 3)) (base := w2.heap.size) (e := 42) (size := 1) #[.slice (some ⟨w2.heap.size, 0, none⟩) 0 0] 1 (by simp) (by unfold maxLen; omega) rfl
      have hs : (w2.alloc (.cells #[] 3)).heap.size = w2.heap.size + 1 := by simp
      rw [hs] at r2
      refine ⟨[.slice (some ⟨w2.heap.size, 0, none⟩) 0 0], rfl, r2, fun i u hu => ?_⟩
      match i, hu with
      | 0, hu =>
        simp [lev] at hu
        subst hu
        exact ⟨_, rfl, ownsBelowW r1 ((Below.refl _ _).alloc (Nat.le_refl _) _)⟩
      | i + 1, hu => simp [lev] at hu
    have hb0 : Below w2.heap.size w2 ((w2.alloc (.cells #[] 3)).alloc (.cells #[.slice (some ⟨w2.heap.size, 0, none⟩) 0 0] 42)) := ((Below.refl _ _).alloc (Nat.le_refl _) _).alloc (by simp) _
    generalize (w2.alloc (.cells #[] 3)).alloc (.cells #[.slice (some ⟨w2.heap.size, 0, none⟩) 0 0] 42) = wZ at hx0 hb0 ⊢
    generalize Value.slice (some ⟨w2.heap.size + 1, 0, none⟩) 1 1 = X0 at hx0 ⊢
    go_loopg [6] 5 (fun gk x wr => ∃ d : Nat, gk = 5 - d ∧ d ≤ 4 ∧ OwnWs w2.heap.size wr x (lev m d) ∧ Hid ((lows m d).find? (mt kind t f) = none) ∧ Below w2.heap.size w2 wr)
    case atStart => exact ⟨0, rfl, by omega, hx0, rfl, hb0⟩
    case round =>
      clear hx0 hb0
      obtain ⟨d, hgk, hd4, hws, hlow, hbw⟩ := hrel
      have HGK := hide hgk
      have hpos := lev_pos hd4 HUA.out hlow.out
      obtain ⟨aw, cw, rfl, hat⟩ := hws.at
      have hN32 := lev_size m hm2 d (by omega)
      have HLN := hide (fun u (hu : u ∈ lev m d) => lev_len d hu)
      generalize hN : (lev m d).length = N at hpos hN32 ⊢
      have HN := hide hN
      have HAT := hide hat
      have hB : decide ((0 : Int) < (N : Int)) = true := decide_eq_true (by omega)
      have hI : (0 : Int) < (N : Int) := by omega
      clear hN hat hws hgk
      obtain ⟨wL, hwL⟩ : ∃ q, q = wr := ⟨_, rfl⟩
      subst hwL
      go_wp2_with fail
      have hy0 : OwnWs wL.heap.size (wL.alloc (.cells #[] 42)) (.slice (some ⟨wL.heap.size, 0, none⟩) 0 0) (((lev m d).take 0).flatMap (ext m)) :=
        ⟨[], rfl, World.ownsRow_lit wL #[] 0 (Nat.le_refl _) (by unfold maxLen; omega) rfl, fun i u hu => by simp at hu⟩
      have hc0 : Below wL.heap.size wL (wL.alloc (.cells #[] 42)) := (Below.refl _ _).alloc (Nat.le_refl _) _
      generalize wL.alloc (.cells #[] 42) = wY at hy0 hc0 ⊢
      generalize Value.slice (some ⟨wL.heap.size, 0, none⟩) 0 0 = Y0 at hy0 ⊢
      go_loopw [7, 26] (fun y i w' => ∃ k : Nat, k ≤ N ∧ i = .int .i64 k ∧ OwnWs wL.heap.size w' y (((lev m d).take k).flatMap (ext m)) ∧ Hid (((lev m d).take k).find? (mt kind t f) = none) ∧ Below wL.heap.size wL w') (fun _ i _ => N - (intOf i).toNat)
      case atStart => exact ⟨0, Nat.zero_le _, rfl, hy0, rfl, hc0⟩
      case round =>
        clear hy0 hc0
        obtain ⟨k, hk, rfl, hys, hnone, hbr⟩ := hrel
        by_cases hlt : k < N
        · obtain ⟨u, hu⟩ : ∃ u, (lev m d)[k]? = some u := ⟨_, List.getElem?_eq_getElem (by rw [HN.out]; exact hlt)⟩
          obtain ⟨gw, xu, rfl, hcell, hxu⟩ := HAT.out k u hu
          have hul : u.length = d := HLN.out u (List.mem_of_getElem? hu)
          have HUL := hide hul
          have hcell := keepc hbr hcell
          have hxo := hxu
          have hxu := ownsBelowW hxu hbr
          obtain ⟨au, cu, rfl, hru⟩ := readsI_of_own hxu
          have SW := hide (symOfWord_any kind au u.length cu u _ hru)
          have hmt : Hid (mt kind t f u = eqS2 (wT kind u) (wF kind u) t f) := rfl
          have HUK := hide hu
          have HXU := hide hxu
          generalize wT kind u = T at SW hmt
          generalize wF kind u = F at SW hmt
          generalize wOk kind u = ok at SW
          have HXL := hide (show OwnW w2.heap.size wL (.slice au u.length cu) u from hxo)
          rw [hul] at SW HXU hcell
          clear hu hxu hxo hru hul
          have hbw2 := belowOf hbw hbr
          go_wp2_with fail
          with_reducible refine SW.out.mono ?_
          rintro e w3 ⟨rfl, nb⟩
          have hys := hys.below nb
          have hbr := belowOf hbr nb
          have hXU := ownsBelowW HXU.out nb
          clear nb SW HXU hcell
          have hg0 := keepc (belowOf hbw hbr) g0
          have hg1 := keepc (belowOf hbw hbr) g1
          have hgl : w.heap.size < w3.heap.size := World.block_lt_of_cell? w3 _ hg0
          have nb : Below w3.heap.size w3 (w3.alloc (.cells #[.int .i64 T, .bool F] 26)) := (Below.refl _ _).alloc (Nat.le_refl _) _
          go_upto_region 10 with fail
          have hys := hys.below nb
          have hbr := belowOf hbr nb
          have hXU := ownsBelowW hXU nb
          have hh0 : (w3.alloc (.cells #[.int .i64 T, .bool F] 26)).cell? ⟨w3.heap.size, 0, none⟩ = some (.int .i64 T) := by go_simp
          have hh1 : (w3.alloc (.cells #[.int .i64 T, .bool F] 26)).cell? ⟨w3.heap.size, 1, none⟩ = some (.bool F) := by go_simp
          have hg0 := keepc nb hg0
          have hg1 := keepc nb hg1
          generalize w3.alloc (.cells #[.int .i64 T, .bool F] 26) = w4 at hys hbr hXU hh0 hh1 hg0 hg1 ⊢
          clear nb hgl
          cases hq : eqS2 T F t f
          · have hpf : mt kind t f u = false := hmt.out.trans hq
            have hnone2 := hide (find_snoc hnone.out HUK.out hpf)
            clear hmt hpf hnone
            go_wp2_with fail
            refine (LT.out _).mono ?_
            rintro e w5 ⟨vL, rfl, hownL, nb⟩
            obtain ⟨aL, cL, rfl, _⟩ := readsS_of_own hownL
            rw [HM.out] at hownL ⊢
            have hys := hys.below nb
            have hbr := belowOf hbr nb
            have hXU := ownsBelowW hXU nb
            clear nb hownL hh0 hh1 hg0 hg1 LT
            go_wp2_with fail
            have hz0 : OwnWs wL.heap.size w5 u7 (((lev m d).take k).flatMap (ext m) ++ extq 0 u) := by
              have e : extq 0 u = [] := rfl
              rw [e, List.append_nil]
              exact hys
            have HN32 := hide hN32
            clear hys hXU
            go_loopw [7, 43] (fun y j w' => ∃ q : Nat, q ≤ m ∧ j = .int .i64 q ∧ OwnWs wL.heap.size w' y (((lev m d).take k).flatMap (ext m) ++ extq q u) ∧ Below wL.heap.size wL w') (fun _ j _ => m - (intOf j).toNat)
            case atStart => exact ⟨0, Nat.zero_le _, rfl, hz0, hbr⟩
            case round =>
              clear hz0
              obtain ⟨q, hq, rfl, hys, hb5⟩ := hrel
              by_cases hltq : q < m
              · have hOU : OwnW w2.heap.size wr (.slice au d cu) u := by
                  have h := ownsBelowW HXL.out hb5
                  rw [HUL.out] at h
                  unfold OwnW
                  rw [HUL.out]
                  exact h
                have hd8 : (d : Int) < 8 := by omega
                have hd8b : decide ((d : Int) < 8) = true := decide_eq_true hd8
                have hlen := part_len (u := u) k hm2 (by rw [HN.out]; exact HN32.out) (Nat.le_of_lt hltq)
                generalize hwsq : ((lev m d).take k).flatMap (ext m) ++ extq q u = ws at hys hlen
                have HWS := hide hwsq
                clear hwsq
                obtain ⟨iI, hiI, hzI0, hzI1, hzI2⟩ := infoPartsW Try.infoInt
                obtain ⟨iW, hiW, hzW0, hzW1, hzW2⟩ := infoPartsW Try.infoWord
                have hu4 : u.length ≤ 4 := by have := HUL.out; omega
                have CL := hide (clone_any wr _ _ u hOU (by omega))
                have hbL := hb5
                clear hOU
                go_wp2_with fail
                with_reducible refine CL.out.mono ?_
                rintro e w6 ⟨v1, rfl, hO1, nb⟩
                have nb6 := nb
                have nbx : Below w6.heap.size w6 (w6.alloc (.cells #[.int .i64 (q : Int)] 3)) := (Below.refl _ _).alloc (Nat.le_refl _) _
                have hO1x := ownsBelowW hO1 nbx
                have nb6x := belowOf nb6 nbx
                clear CL hO1 nb
                go_wp2_with (at_builtin; refine wpList_append_lies _ rfl _ _ 42 rfl wr.heap.size 3 iI (.int .i64 0) 1 8 Try.underlying42 hiI hzI0 hzI1 hzI2 rfl (by decide) _ _ _ rfl hO1x ⟨w6.heap.size, 0, none⟩ 1 1 [.int .i64 (q : Int)] rfl rfl ?c1 ?c2 (by omega) ?c3 ?c4 ?c5 _ rfl ?_)
                case c1 =>
                  intro j u hj
                  match j, hj with
                  | 0, hj => simp at hj; subst hj; simp only [Addr.add]; go_simp
                case c2 => intro u hu; simp at hu; subst hu; rfl
                case c3 => unfold maxLen; omega
                case c4 => omega
                case c5 => exact nb6x.size
                intro g' cap' w7 hown' hgrow hat' _
                have nb7 := nb6x.grown hgrow nb6x.size (fun q hq => (hO1x.lt q hq).1)
                have hx7 : OwnW wr.heap.size w7 (.slice (some ⟨g', 0, none⟩) (u.length + 1) cap') (u ++ [(q : Int)]) := by
                  unfold OwnW
                  rw [List.length_append, List.map_append]
                  exact hown'
                clear hown' hgrow hat' hO1x nb6x nb6 nbx
                have nb8 : Below w7.heap.size w7 (w7.alloc (.cells #[.slice (some ⟨g', 0, none⟩) (u.length + 1) cap'] 42)) := (Below.refl _ _).alloc (Nat.le_refl _) _
                have hys8 := (hys.below nb7).below nb8
                have hx8 : OwnW wL.heap.size _ _ _ := ownsBaseW (ownsBelowW hx7 nb8) hbL.size
                have hb8 := belowOf hbL (belowOf nb7 nb8)
                obtain ⟨vs, h0, h1, h2⟩ := hys8
                clear hys hx7
                go_wp2_with (at_builtin; refine wpList_append_lies _ rfl _ _ 69 rfl wL.heap.size 42 iW (.slice none 0 0) 1 24 Try.underlying69 hiW hzW0 hzW1 hzW2 rfl (by decide) _ _ _ rfl h1 ⟨w7.heap.size, 0, none⟩ 1 1 [.slice (some ⟨g', 0, none⟩) (u.length + 1) cap'] rfl rfl ?c1 ?c2 (by omega) ?c3 ?c4 ?c5 _ rfl ?_)
                case c1 =>
                  intro j u hj
                  match j, hj with
                  | 0, hj => simp at hj; subst hj; simp only [Addr.add]; go_simp
                case c2 => intro u hu; simp at hu; subst hu; rfl
                case c3 => unfold maxLen; omega
                case c4 => omega
                case c5 => exact hb8.size
                intro g9 cap9 w9 hown9 hgrow9 hat9 _
                have hn9 := OwnWs.snoc h0 h1 h2 hx8 hown9 hgrow9
                have hn10 : OwnWs wL.heap.size w9 (.slice (some ⟨g9, 0, none⟩) (ws.length + 1) cap9) (((lev m d).take k).flatMap (ext m) ++ extq (q + 1) u) := by
                  rw [extq_succ, ← List.append_assoc, HWS.out]
                  exact hn9
                have hb9 := hb8.grown hgrow9 hb8.size (fun q hq => (h1.lt q hq).1)
                clear hown9 hgrow9 hat9 h0 h1 h2 hx8 hb8 hn9
                go_wp2_with fail
                go_roundw
                case rel => exact ⟨q + 1, by omega, by go_num, hn10, hb9⟩
                case measure => simp [intOf]; omega
              · obtain rfl : q = m := by omega
                have hy2 := hys
                rw [show extq q u = ext q u from rfl, ext_next HUK.out] at hy2
                have hbr2 := hb5
                clear hys
                go_wp2_with fail
                go_roundw
                case rel => exact ⟨k + 1, by omega, by go_num, hy2, hnone2, hbr2⟩
                case measure => simp [intOf]; omega
          · have hpt : mt kind t f u = true := hmt.out.trans hq
            have HA := hide (ans_at hd4 hlow.out hnone.out HUK.out hpt)
            clear hmt hpt hnone
            go_wp2_with fail
            have hbel := belowOf bel (belowOf hbw hbr)
            have hO : OwnW w.heap.size w4 (.slice au d cu) u := by
              unfold OwnW
              rw [HUL.out]
              exact ownsBaseW hXU bel.size
            have hE : ansI kind t f = some u := by
              unfold ansI
              rw [HM.out]
              exact HA.out
            rw [hE]
            refine bodyPost_ret (v := .tuple #[.slice au d cu, .bool true]) (by simp [results, Try.results41, go_sem]) rfl ⟨_, rfl, hO, hbel⟩
        · obtain rfl : k = N := by omega
          have hnone2 := hnone.out
          rw [show (lev m d).take k = lev m d from List.take_of_length_le (by rw [HN.out]; exact Nat.le_refl _)] at hnone2 hys
          obtain ⟨hd1, hlow1⟩ := lev_next hd4 HUA.out hlow.out hnone2
          have hys2 := hys.base hbw.size
          have hlow2 := hide hlow1
          have hbw2 := belowOf hbw hbr
          have hgk := HGK.out
          clear hys hnone hnone2 hlow1 hlow HAT HLN
          go_wp2_with fail
          go_roundg (5 - (d + 1))
          case measure => omega
          case rel => exact ⟨d + 1, rfl, hd1, hys2, hlow2, hbw2⟩

end Go.Proofs.Ytnpgdijafmkmkaa
