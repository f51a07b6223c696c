/- Flexible sizes, by the reference. -/
import Derived.Test.YtjaecgobgpfbdaaPG
import Derived.Test.YtjaecgobgpfbdaaSC
import Derived.Test.YtjaecgobgpfbdaaRZ
import Derived.Test.YtjaecgobgpfbdaaFR
import Derived.StillTailTactics
namespace Go.Proofs.Ytjaecgobgpfbdaa
open Go.RowKit
set_option maxRecDepth 100000

theorem toInt_yes (w : World) : Calls Try.prog 105 #[.bool true] w fun e w' => e = .returned (.int .i64 1) ∧ w' = w := by
  go_enter Try.func105, Try.ntmps105
  go_wp2
  go_ret
  exact ⟨rfl, rfl⟩
theorem toInt_no (w : World) : Calls Try.prog 105 #[.bool false] w fun e w' => e = .returned (.int .i64 0) ∧ w' = w := by
  go_enter Try.func105, Try.ntmps105
  go_wp2
  go_ret
  exact ⟨rfl, rfl⟩
set_option maxHeartbeats 2000000 in
theorem bases_any (A : Option Addr) (n c : Nat) (zs : List Int) (w : World) (h : Rd w w.heap.size A (5 * n) zs) (hn : n ≤ 2000000) :
    Calls Try.prog 96 #[.slice A n c] w (GotI w (mk n (bsF zs))) := by
  have H := Lib.hid h
  clear h
  have hR := Lib.hid (Rz.start (w.alloc (.cells #[] 3)) ⟨w.heap.size, 0, none⟩)
  have HX := Lib.hid ((Below.refl w.heap.size w).alloc (Nat.le_refl _) (.cells #[] 3))
  go_enter Try.func96, Try.ntmps96
  go_wp2
  generalize w.alloc (.cells #[] 3) = wX at hR HX ⊢
  go_loopw [3, 4] (fun ov iv wr => ∃ k : Nat, k ≤ n ∧ iv = .int .i64 k ∧ Hid (Rz wX ov k (mk k (bsF zs)) wr)) (fun _ iv _ => n - (intOf iv).toNat)
  case atStart => exact ⟨0, Nat.zero_le _, rfl, hR.out⟩
  case round =>
    obtain ⟨k, hk, rfl, hI⟩ := hrel
    by_cases hlt : k < n
    · obtain ⟨b, off, rfl, hb, hc⟩ := H.out.cell (by omega)
      obtain ⟨c0, _⟩ := at5 hc hlt
      obtain ⟨v, hv⟩ : ∃ v, Hid (zs.getD (5 * k) 0 = v) := ⟨_, rfl⟩
      rw [hv.out] at c0
      have e1 : wr.cell? ⟨b, off + k * 5, none⟩ = some (.int .i64 v) := by rw [hI.out.bl.cell (p := ⟨b, off + k * 5, none⟩) (Nat.lt_of_lt_of_le hb HX.out.size), HX.out.cell (p := ⟨b, off + k * 5, none⟩) hb]; exact c0
      clear hc c0
      go_wp2_with (at_builtin; refine wpList_appz _ rfl _ _ rfl _ _ _ rfl (hI.out.alloc _) (by omega) wr.heap.size v rfl (by simp [go_sem]) ?_; intro v' wn hown; have HO := Lib.hid hown; clear hown)
      go_roundw
      case rel => exact ⟨k + 1, by omega, by go_num, by rw [mk_succ, show bsF zs k = v from hv.out]; exact HO.out⟩
      case measure => simp [intOf]; omega
    · obtain rfl : k = n := by omega
      go_wp2
      go_ret
      obtain ⟨A', c', rfl, q1, q2, _, q3⟩ := hI.out.out
      exact ⟨A', k, c', rfl, q1, q3.low HX.out.size, HX.out.trans (hI.out.bl.mono HX.out.size)⟩
/- Only block bo, and what is new, has turned; the sizes lie in it. -/
def Mv (w : World) (lo bo oo n : Nat) (f : Nat → Int) (wr : World) : Prop := Wr wr lo (some ⟨bo, oo, none⟩) n (mk n f) ∧ w.grownBy wr (some bo)
theorem Mv.below {w wr wr' : World} {lo bo oo n : Nat} {f : Nat → Int} (h : Mv w lo bo oo n f wr) (hb : Below wr.heap.size wr wr') : Mv w lo bo oo n f wr' := ⟨h.1.below hb, gb_trans h.2 (gb_below hb _)⟩
theorem Mv.drewN {w wr : World} {lo bo oo n : Nat} {f : Nat → Int} (h : Mv w lo bo oo n f wr) (k : Nat) : Mv w lo bo oo n f (wr.drewN k) := ⟨h.1.drewN k, gb_drewN h.2 k⟩
theorem Mv.rd {w wr : World} {lo bo oo n : Nat} {f : Nat → Int} (h : Mv w lo bo oo n f wr) {A : Option Addr} {m : Nat} {zs : List Int} (hr : Rd w lo A m zs) (hl : lo ≤ w.heap.size) (hb : lo ≤ bo) : Rd wr lo A m zs := hr.grown hl h.2 (fun g e => by injection e with e; omega)
theorem Mv.set {w wr : World} {lo bo oo n : Nat} {f : Nat → Int} (h : Mv w lo bo oo n f wr) {k : Nat} (hk : k < n) (v : Int) : Mv w lo bo oo n (fun i => if i = k then v else f i) (wr.setCell ⟨bo, oo + k, none⟩ (.int .i64 v)) :=
  ⟨by rw [← mk_set n f k v hk]; exact h.1.set hk v, gb_set h.2 (.inl rfl) _⟩
theorem Mv.to {w wr : World} {lo bo oo n : Nat} {f f' : Nat → Int} (h : Mv w lo bo oo n f wr) (hf : ∀ i, i < n → f i = f' i) : Mv w lo bo oo n f' wr := ⟨by rw [← mk_congr n f f' hf]; exact h.1, h.2⟩
def Moved (w : World) (lo bo oo n c : Nat) (f : Nat → Int) (e : Ending) (w' : World) : Prop := e = .returned (.slice (some ⟨bo, oo, none⟩) n c) ∧ Mv w lo bo oo n f w'

set_option maxHeartbeats 8000000 in
theorem grow_any (A : Option Addr) (n c bo oo co : Nat) (zs : List Int) (L : Int) (lo : Nat) (w : World) (h : Rd w lo A (5 * n) zs) (hl : lo ≤ w.heap.size) (hn1 : 1 ≤ n) (hn : n ≤ 8) (hv : okS zs n) (hL0 : 0 ≤ L) (hL1 : L ≤ 200000) (hW : Wr w lo (some ⟨bo, oo, none⟩) n (mk n (bsF zs))) :
    Calls Try.prog 98 #[.slice A n c, .slice (some ⟨bo, oo, none⟩) n co, .int .i64 L] w (Moved w lo bo oo n co (gwI zs n L (n + 1))) := by
  have H := Lib.hid h
  have HV := Lib.hid hv
  obtain ⟨hlb, hbw, _⟩ := (show lo ≤ bo ∧ bo < w.heap.size ∧ True by
    obtain ⟨b', off', e, h1, h2, h3⟩ := hW.2 (by omega)
    injection e with e; injection e with e1 e2
    subst e1 e2
    exact ⟨h1, h2, trivial⟩)
  have HM0 : Hid (Mv w lo bo oo n (gwI zs n L 0) w) := ⟨by rw [mk_congr n (gwI zs n L 0) (bsF zs) (fun i _ => by unfold gwI; simp [dst])]; exact hW, World.grownBy.refl w _⟩
  have Hw := Lib.hid (grF_bd hv)
  have Hc := Lib.hid (capG_nn hv)
  clear h hv hW
  go_enter Try.func98, Try.ntmps98
  go_wp2
  go_loopw [2] (fun sv wr => ∃ k : Nat, sv = .int .i64 (lfI n (capG zs) (grF zs) L k) ∧ Hid ((∀ j, j < k → ¬ stp n (capG zs) (grF zs) L j) ∧ Mv w lo bo oo n (gwI zs n L k) wr)) (fun sv _ => (intOf sv).toNat)
  case atStart => exact ⟨0, vint (by unfold lfI; simp only [dst]; rw [sm_const]; omega), fun j hj => absurd hj (by omega), HM0.out⟩
  case round =>
    obtain ⟨k, rfl, hS⟩ := hrel
    obtain ⟨l0, l1⟩ := lfI_bd Hw.out (by omega) Hc.out hL0 k
    have hless := fun h => lfI_less Hw.out (by omega) Hc.out hL0 (k := k) h
    have hfst := fun h => dst_first Hw.out (by omega) Hc.out hL0 (k := k) hS.out.1 h
    have HLess := Lib.hid hless
    have HFst := Lib.hid hfst
    clear hless hfst
    obtain ⟨S, hS'⟩ : ∃ S, Hid (lfI n (capG zs) (grF zs) L k = S) := ⟨_, rfl⟩
    rw [hS'.out] at l0 l1 ⊢
    have hR := Lib.hid (Rz.start (wr.alloc (.cells #[] 3)) ⟨wr.heap.size, 0, none⟩)
    have HMA := Lib.hid (hS.out.2.below ((Below.refl wr.heap.size wr).alloc (Nat.le_refl _) (.cells #[] 3)))
    have hWL := Lib.hid (show wr.heap.size ≤ (wr.alloc (.cells #[] 3)).heap.size by simp)
    have HSZ := Lib.hid hS.out.2.2.size
    go_wp2
    obtain ⟨wo, hwo⟩ : ∃ W, Hid (wr = W) := ⟨_, rfl⟩
    generalize wr.alloc (.cells #[] 3) = wX at hR HMA hWL ⊢
    go_loopw [7, 8] (fun ov iv wr => ∃ i : Nat, i ≤ n ∧ iv = .int .i64 i ∧ Hid (Rz wX ov i (mk i fun q => if dst n (capG zs) (grF zs) L k q < capG zs q then grF zs q else 0) wr)) (fun _ iv _ => n - (intOf iv).toNat)
    case atStart => exact ⟨0, Nat.zero_le _, rfl, hR.out⟩
    case round =>
      obtain ⟨i, hi, rfl, hI⟩ := hrel
      have HM1 := Lib.hid (HMA.out.below (hI.out.bl))
      by_cases hlt : i < n
      · obtain ⟨q1, q2⟩ := gwI_bd HV.out hL0 k hlt
        obtain ⟨v1, v2, v3, v4, ⟨v5, v6⟩, v7, v8⟩ := HV.out.at_ hlt
        have hrl := HM1.out.rd H.out hl hlb
        obtain ⟨b, off, rfl, hb, hc⟩ := hrl.cell (by omega)
        obtain ⟨c0, c1, c2, c3, c4⟩ := at5 hc hlt
        obtain ⟨_, _, hco⟩ := HM1.out.1.at_ (by omega)
        have cx := (hco i hlt).1
        rw [mk_getD _ _ _ hlt] at cx
        obtain ⟨x, hx⟩ : ∃ x, Hid (gwI zs n L k i = x) := ⟨_, rfl⟩
        obtain ⟨u, hu⟩ : ∃ u, Hid (mxF zs i = u) := ⟨_, rfl⟩
        obtain ⟨g, hg⟩ : ∃ g, Hid (grF zs i = g) := ⟨_, rfl⟩
        rw [show zs.getD (5 * i + 2) 0 = u from hu.out] at c2
        rw [show zs.getD (5 * i + 3) 0 = g from hg.out] at c3
        rw [hx.out] at cx q1 q2
        rw [hu.out] at q2 v3 v4
        rw [hg.out] at v5 v6
        have htest : x < u ↔ dst n (capG zs) (grF zs) L k i < capG zs i := by
          rw [← hx.out, ← hu.out]; unfold gwI capG; omega
        have i0 : (0 : Int) ≤ (i : Int) := by omega
        have i1 : (i : Int) < (n : Int) := by omega
        by_cases hd : x < u
        · have hd1 : decide (x < u) = true := by simpa using hd
          have mg : IntKind.i64.wrap g = g := IntWalk.i64_in _ (by omega)
          have HE : Hid ((if dst n (capG zs) (grF zs) L k i < capG zs i then grF zs i else 0) = g) := by show _ = _; rw [if_pos (htest.1 hd), hg.out]
          clear hc hco htest hd
          go_wp2
          go_region_law (first
            | ((refine step_appz rfl (.tmp 19) (.tmp 37) rfl _ i _ (by simp [Act.eval, Act.put]) ((hI.out.drewN 1).alloc (.cells #[.int .i64 g] 3)) (by omega) wr.heap.size g (by simp [Act.eval, Act.put]) (by simp [go_sem]) ?_; intro v' wn hown))
            | (go_simp; go_at_call 105; refine (toInt_yes _).mono ?_; rintro e w9 ⟨rfl, rfl⟩))
          all_goals
            have HO := Lib.hid hown
            clear hown
            go_simp
            go_wp2
            go_roundw
            case rel => first | exact ⟨i + 1, by omega, by go_num, by rw [mk_succ, HE.out]; exact HO.out⟩ | ((repeat apply Exists.intro); exact ⟨⟨i + 1, by omega, vint (by omega), by rw [mk_succ, HE.out]; exact HO.out⟩, rfl⟩)
            case measure => simp [intOf]; omega
        · have hd1 : decide (x < u) = false := by simpa using hd
          have HE : Hid ((if dst n (capG zs) (grF zs) L k i < capG zs i then grF zs i else 0) = 0) := by show _ = _; rw [if_neg (fun h => hd (htest.2 h))]
          have mg : IntKind.i64.wrap (0 : Int) = 0 := IntWalk.i64_in _ (by omega)
          clear hc hco htest hd
          go_wp2
          go_region_law (first
            | ((refine step_appz rfl (.tmp 19) (.tmp 37) rfl _ i _ (by simp [Act.eval, Act.put]) ((hI.out.drewN 1).alloc (.cells #[.int .i64 0] 3)) (by omega) wr.heap.size 0 (by simp [Act.eval, Act.put]) (by simp [go_sem]) ?_; intro v' wn hown))
            | (go_simp; go_at_call 105; refine (toInt_no _).mono ?_; rintro e w9 ⟨rfl, rfl⟩))
          all_goals
            have HO := Lib.hid hown
            clear hown
            go_simp
            go_wp2
            go_roundw
            case rel => first | exact ⟨i + 1, by omega, by go_num, by rw [mk_succ, HE.out]; exact HO.out⟩ | ((repeat apply Exists.intro); exact ⟨⟨i + 1, by omega, vint (by omega), by rw [mk_succ, HE.out]; exact HO.out⟩, rfl⟩)
            case measure => simp [intOf]; omega
      · obtain rfl : n = i := by omega
        obtain ⟨Aw, cw, rfl, _, _, _, hWw⟩ := hI.out.out
        have HWw := Lib.hid hWw
        have HSh := Lib.hid (shI_all Hw.out Hc.out hL0 hL1 k)
        have HShE : Hid (shr S (mk n fun q => if dst n (capG zs) (grF zs) L k q < capG zs q then grF zs q else 0) = shI n (capG zs) (grF zs) L k) := by
          show _ = _; rw [← hS'.out]; rfl
        clear hWw hWL hR
        go_wp2_with fail
        refine (sshare_any S Aw n cw _ wr HWw.out.rd (by omega) l0 (by omega) ((wtL_all Hw.out (by omega) _).mono (by omega) (by omega))).mono ?_
        rintro e w5 ⟨A5, n5, c5, rfl, hc5, hw5, hb5⟩
        rw [HShE.out] at hw5
        obtain rfl : n = n5 := by have h5 := hw5.1; rw [shI_len] at h5; exact h5
        have HW5 := Lib.hid hw5
        have HM5 := Lib.hid (HM1.out.below hb5)
        have HZ5 := Lib.hid (Nat.le_trans HM1.out.2.size (Nat.le_refl _))
        clear hw5 hb5 hc5
        obtain ⟨T, hT⟩ : ∃ T, Hid (tot (shI n (capG zs) (grF zs) L k) n = T) := ⟨_, rfl⟩
        go_wp2_with fail
        refine (ssum_any A5 n c5 _ _ w5 HW5.out.rd (by omega) (HSh.out.mono (by omega) (by omega))).mono ?_
        rintro e w' ⟨rfl, rfl⟩
        rw [hT.out]
        by_cases hT0 : T = 0
        · have hTb : (T == 0) = true := by simp [hT0]
          have HStp : Hid (stp n (capG zs) (grF zs) L k) := by show tot _ _ = 0; rw [hT.out]; exact hT0
          clear hT0
          go_wp2
          go_ret
          exact ⟨rfl, HM5.out.to fun i hi => by unfold gwI; rw [HFst.out HStp.out i hi]⟩
        · have hTb : (T == 0) = false := by simp [hT0]
          have HStp : Hid (¬ stp n (capG zs) (grF zs) L k) := by show ¬ tot _ _ = 0; rw [hT.out]; exact hT0
          clear hT0
          go_wp2
          go_loopw [2, 10] (fun sv iv wr => ∃ i : Nat, i ≤ n ∧ iv = .int .i64 i ∧ sv = .int .i64 (S - sm (mvI n (capG zs) (grF zs) L k) i) ∧ Hid (Mv w lo bo oo n (fun q => if q < i then gwI zs n L (k + 1) q else gwI zs n L k q) wr ∧ Wr wr w.heap.size A5 n (shI n (capG zs) (grF zs) L k))) (fun _ iv _ => n - (intOf iv).toNat)
          case atStart => exact ⟨0, Nat.zero_le _, rfl, vint (by simp [sm]), HM5.out.to fun i _ => by simp, HW5.out.low HZ5.out⟩
          case round =>
            obtain ⟨i, hi, rfl, rfl, hJ⟩ := hrel
            obtain ⟨r0, r1⟩ := mvS_bd Hw.out (by omega) Hc.out hL0 k i hi
            rw [hS'.out] at r1
            by_cases hlt2 : i < n
            · obtain ⟨q1, q2⟩ := gwI_bd HV.out hL0 k hlt2
              obtain ⟨v1, v2, v3, v4, _, _⟩ := HV.out.at_ hlt2
              obtain ⟨s0, s1⟩ := HSh.out.getD i (by rw [shI_len]; exact hlt2)
              have hrl := hJ.out.1.rd H.out hl hlb
              obtain ⟨b, off, rfl, hb, hc⟩ := hrl.cell (by omega)
              obtain ⟨c0, c1, c2, c3, c4⟩ := at5 hc hlt2
              obtain ⟨_, _, hco⟩ := hJ.out.1.1.at_ (by omega)
              have cx := (hco i hlt2).1
              have fx' := (hco i hlt2).2
              rw [mk_getD _ _ _ hlt2, if_neg (by omega)] at cx
              obtain ⟨b5, o5, rfl, hl5, hb5, hc5⟩ := hJ.out.2.2 (by omega)
              have cs := (hc5 i hlt2).1
              obtain ⟨x, hx⟩ : ∃ x, Hid (gwI zs n L k i = x) := ⟨_, rfl⟩
              obtain ⟨u, hu⟩ : ∃ u, Hid (mxF zs i = u) := ⟨_, rfl⟩
              obtain ⟨s, hs⟩ : ∃ s, Hid ((shI n (capG zs) (grF zs) L k).getD i 0 = s) := ⟨_, rfl⟩
              obtain ⟨R, hR⟩ : ∃ R, Hid (sm (mvI n (capG zs) (grF zs) L k) i = R) := ⟨_, rfl⟩
              obtain ⟨m, hm⟩ : ∃ m, Hid (min s (u - x) = m) := ⟨_, rfl⟩
              rw [show zs.getD (5 * i + 2) 0 = u from hu.out] at c2
              rw [hx.out] at cx q1 q2
              rw [hu.out] at q2 v3 v4
              rw [hs.out] at cs s0 s1
              rw [hR.out] at r0 r1 ⊢
              have hm0 : 0 ≤ m ∧ m ≤ u - x := by rw [← hm.out]; omega
              obtain ⟨m0, m1⟩ := hm0
              have Hmv : Hid (mvI n (capG zs) (grF zs) L k i = m) := by
                show _ = _
                unfold mvI
                rw [hs.out, ← hm.out, ← hx.out, ← hu.out]
                unfold gwI capG
                congr 1
                omega
              have Hnew : Hid (gwI zs n L (k + 1) i = x + m) := by
                show _ = _
                have e := dst_mv (n := n) (cap := capG zs) (wt := grF zs) (L := L) k i
                rw [Hmv.out] at e
                rw [← hx.out]; unfold gwI; omega
              have j0 : (0 : Int) ≤ (i : Int) := by omega
              have j1 : (i : Int) < (n : Int) := by omega
              have w1' : IntKind.i64.wrap (u - x) = u - x := IntWalk.i64_in _ (by omega)
              clear hc hco hc5
              go_wp2
              go_quiet (fail)
              rw [hm.out]
              clear w1' c0 c1 c2 c3 c4 cs
              go_wp2
              have HN : Hid (Mv w lo bo oo n (fun q => if q < i + 1 then gwI zs n L (k + 1) q else gwI zs n L k q) ((wr.drewN nq).setCell ⟨bo, oo + i, none⟩ (.int .i64 (x + m))) ∧ Wr ((wr.drewN nq).setCell ⟨bo, oo + i, none⟩ (.int .i64 (x + m))) w.heap.size (some ⟨b5, o5, none⟩) n (shI n (capG zs) (grF zs) L k)) := by
                refine ⟨((hJ.out.1.drewN nq).set hlt2 (x + m)).to fun q _ => ?_, (hJ.out.2.drewN nq).grown (gb_one _ _ _) (fun r e => by injection e with e; rw [← e]; exact hbw)⟩
                by_cases h1 : q = i
                · subst h1; rw [if_pos rfl, if_pos (by omega), Hnew.out]
                · have : q < i + 1 ↔ q < i := by omega
                  simp [h1, this]
              go_roundw
              case rel => exact ⟨i + 1, by omega, by go_num, vint (by rw [sm, hR.out, Hmv.out]; omega), HN.out⟩
              case measure => simp [intOf]; omega
            · obtain rfl : n = i := by omega
              have HN : Hid (S - sm (mvI n (capG zs) (grF zs) L k) n = lfI n (capG zs) (grF zs) L (k + 1)) := by show _ = _; rw [lfI_mv, hS'.out]
              have hl2 := HLess.out HStp.out
              rw [hS'.out] at hl2
              rw [HN.out]
              have HK2 : Hid ((∀ j, j < k + 1 → ¬ stp n (capG zs) (grF zs) L j) ∧ Mv w lo bo oo n (gwI zs n L (k + 1)) wr) := ⟨fun j hj => by
                rcases Nat.lt_or_ge j k with h1 | h1
                · exact hS.out.1 j h1
                · obtain rfl : j = k := by omega
                  exact HStp.out, hJ.out.1.to fun q hq => if_pos hq⟩
              go_wp2
              go_roundw
              case rel => exact ⟨k + 1, rfl, HK2.out⟩
              case measure =>
                have h9 := (lfI_bd Hw.out (by omega) Hc.out hL0 (k + 1)).1
                simp [intOf]; omega
set_option maxHeartbeats 8000000 in
theorem shrink_any (A : Option Addr) (n c bo oo co : Nat) (zs : List Int) (L : Int) (lo : Nat) (w : World) (h : Rd w lo A (5 * n) zs) (hl : lo ≤ w.heap.size) (hn1 : 1 ≤ n) (hn : n ≤ 8) (hv : okS zs n) (hL0 : 0 ≤ L) (hL1 : L ≤ 200000) (hW : Wr w lo (some ⟨bo, oo, none⟩) n (mk n (bsF zs))) :
    Calls Try.prog 99 #[.slice A n c, .slice (some ⟨bo, oo, none⟩) n co, .int .i64 L] w (Moved w lo bo oo n co (skI zs n L (n + 1))) := by
  have H := Lib.hid h
  have HV := Lib.hid hv
  obtain ⟨hlb, hbw, _⟩ := (show lo ≤ bo ∧ bo < w.heap.size ∧ True by
    obtain ⟨b', off', e, h1, h2, h3⟩ := hW.2 (by omega)
    injection e with e; injection e with e1 e2
    subst e1 e2
    exact ⟨h1, h2, trivial⟩)
  have HM0 : Hid (Mv w lo bo oo n (skI zs n L 0) w) := ⟨by rw [mk_congr n (skI zs n L 0) (bsF zs) (fun i _ => by unfold skI; simp [dst])]; exact hW, World.grownBy.refl w _⟩
  have Hw := Lib.hid (skF_bd hv)
  have Hc := Lib.hid (capS_nn hv)
  clear h hv hW
  go_enter Try.func99, Try.ntmps99
  go_wp2
  go_loopw [2] (fun sv wr => ∃ k : Nat, sv = .int .i64 (lfI n (capS zs) (skF zs) L k) ∧ Hid ((∀ j, j < k → ¬ stp n (capS zs) (skF zs) L j) ∧ Mv w lo bo oo n (skI zs n L k) wr)) (fun sv _ => (intOf sv).toNat)
  case atStart => exact ⟨0, vint (by unfold lfI; simp only [dst]; rw [sm_const]; omega), fun j hj => absurd hj (by omega), HM0.out⟩
  case round =>
    obtain ⟨k, rfl, hS⟩ := hrel
    obtain ⟨l0, l1⟩ := lfI_bd Hw.out (by omega) Hc.out hL0 k
    have hless := fun h => lfI_less Hw.out (by omega) Hc.out hL0 (k := k) h
    have hfst := fun h => dst_first Hw.out (by omega) Hc.out hL0 (k := k) hS.out.1 h
    have HLess := Lib.hid hless
    have HFst := Lib.hid hfst
    clear hless hfst
    obtain ⟨S, hS'⟩ : ∃ S, Hid (lfI n (capS zs) (skF zs) L k = S) := ⟨_, rfl⟩
    rw [hS'.out] at l0 l1 ⊢
    have hR := Lib.hid (Rz.start (wr.alloc (.cells #[] 3)) ⟨wr.heap.size, 0, none⟩)
    have HMA := Lib.hid (hS.out.2.below ((Below.refl wr.heap.size wr).alloc (Nat.le_refl _) (.cells #[] 3)))
    have hWL := Lib.hid (show wr.heap.size ≤ (wr.alloc (.cells #[] 3)).heap.size by simp)
    have HSZ := Lib.hid hS.out.2.2.size
    go_wp2
    obtain ⟨wo, hwo⟩ : ∃ W, Hid (wr = W) := ⟨_, rfl⟩
    generalize wr.alloc (.cells #[] 3) = wX at hR HMA hWL ⊢
    go_loopw [7, 8] (fun ov iv wr => ∃ i : Nat, i ≤ n ∧ iv = .int .i64 i ∧ Hid (Rz wX ov i (mk i fun q => if dst n (capS zs) (skF zs) L k q < capS zs q then skF zs q else 0) wr)) (fun _ iv _ => n - (intOf iv).toNat)
    case atStart => exact ⟨0, Nat.zero_le _, rfl, hR.out⟩
    case round =>
      obtain ⟨i, hi, rfl, hI⟩ := hrel
      have HM1 := Lib.hid (HMA.out.below (hI.out.bl))
      by_cases hlt : i < n
      · obtain ⟨q1, q2⟩ := skI_bd HV.out hL0 k hlt
        obtain ⟨v1, v2, v3, v4, ⟨v5, v6⟩, v7, v8⟩ := HV.out.at_ hlt
        have hrl := HM1.out.rd H.out hl hlb
        obtain ⟨b, off, rfl, hb, hc⟩ := hrl.cell (by omega)
        obtain ⟨c0, c1, c2, c3, c4⟩ := at5 hc hlt
        obtain ⟨_, _, hco⟩ := HM1.out.1.at_ (by omega)
        have cx := (hco i hlt).1
        rw [mk_getD _ _ _ hlt] at cx
        obtain ⟨x, hx⟩ : ∃ x, Hid (skI zs n L k i = x) := ⟨_, rfl⟩
        obtain ⟨u, hu⟩ : ∃ u, Hid (mnF zs i = u) := ⟨_, rfl⟩
        obtain ⟨g, hg⟩ : ∃ g, Hid (skF zs i = g) := ⟨_, rfl⟩
        rw [show zs.getD (5 * i + 1) 0 = u from hu.out] at c1
        rw [show zs.getD (5 * i + 4) 0 = g from hg.out] at c4
        rw [hx.out] at cx q1 q2
        rw [hu.out] at q1 v1 v2
        rw [hg.out] at v7 v8
        have htest : u < x ↔ dst n (capS zs) (skF zs) L k i < capS zs i := by
          rw [← hx.out, ← hu.out]; unfold skI capS; omega
        have i0 : (0 : Int) ≤ (i : Int) := by omega
        have i1 : (i : Int) < (n : Int) := by omega
        by_cases hd : u < x
        · have hd1 : decide (u < x) = true := by simpa using hd
          have mg : IntKind.i64.wrap g = g := IntWalk.i64_in _ (by omega)
          have HE : Hid ((if dst n (capS zs) (skF zs) L k i < capS zs i then skF zs i else 0) = g) := by show _ = _; rw [if_pos (htest.1 hd), hg.out]
          clear hc hco htest hd
          go_wp2
          go_region_law (first
            | ((refine step_appz rfl (.tmp 19) (.tmp 37) rfl _ i _ (by simp [Act.eval, Act.put]) ((hI.out.drewN 1).alloc (.cells #[.int .i64 g] 3)) (by omega) wr.heap.size g (by simp [Act.eval, Act.put]) (by simp [go_sem]) ?_; intro v' wn hown))
            | (go_simp; go_at_call 105; refine (toInt_yes _).mono ?_; rintro e w9 ⟨rfl, rfl⟩))
          all_goals
            have HO := Lib.hid hown
            clear hown
            go_simp
            go_wp2
            go_roundw
            case rel => first | exact ⟨i + 1, by omega, by go_num, by rw [mk_succ, HE.out]; exact HO.out⟩ | ((repeat apply Exists.intro); exact ⟨⟨i + 1, by omega, vint (by omega), by rw [mk_succ, HE.out]; exact HO.out⟩, rfl⟩)
            case measure => simp [intOf]; omega
        · have hd1 : decide (u < x) = false := by simpa using hd
          have HE : Hid ((if dst n (capS zs) (skF zs) L k i < capS zs i then skF zs i else 0) = 0) := by show _ = _; rw [if_neg (fun h => hd (htest.2 h))]
          have mg : IntKind.i64.wrap (0 : Int) = 0 := IntWalk.i64_in _ (by omega)
          clear hc hco htest hd
          go_wp2
          go_region_law (first
            | ((refine step_appz rfl (.tmp 19) (.tmp 37) rfl _ i _ (by simp [Act.eval, Act.put]) ((hI.out.drewN 1).alloc (.cells #[.int .i64 0] 3)) (by omega) wr.heap.size 0 (by simp [Act.eval, Act.put]) (by simp [go_sem]) ?_; intro v' wn hown))
            | (go_simp; go_at_call 105; refine (toInt_no _).mono ?_; rintro e w9 ⟨rfl, rfl⟩))
          all_goals
            have HO := Lib.hid hown
            clear hown
            go_simp
            go_wp2
            go_roundw
            case rel => first | exact ⟨i + 1, by omega, by go_num, by rw [mk_succ, HE.out]; exact HO.out⟩ | ((repeat apply Exists.intro); exact ⟨⟨i + 1, by omega, vint (by omega), by rw [mk_succ, HE.out]; exact HO.out⟩, rfl⟩)
            case measure => simp [intOf]; omega
      · obtain rfl : n = i := by omega
        obtain ⟨Aw, cw, rfl, _, _, _, hWw⟩ := hI.out.out
        have HWw := Lib.hid hWw
        have HSh := Lib.hid (shI_all Hw.out Hc.out hL0 hL1 k)
        have HShE : Hid (shr S (mk n fun q => if dst n (capS zs) (skF zs) L k q < capS zs q then skF zs q else 0) = shI n (capS zs) (skF zs) L k) := by
          show _ = _; rw [← hS'.out]; rfl
        clear hWw hWL hR
        go_wp2_with fail
        refine (sshare_any S Aw n cw _ wr HWw.out.rd (by omega) l0 (by omega) ((wtL_all Hw.out (by omega) _).mono (by omega) (by omega))).mono ?_
        rintro e w5 ⟨A5, n5, c5, rfl, hc5, hw5, hb5⟩
        rw [HShE.out] at hw5
        obtain rfl : n = n5 := by have h5 := hw5.1; rw [shI_len] at h5; exact h5
        have HW5 := Lib.hid hw5
        have HM5 := Lib.hid (HM1.out.below hb5)
        have HZ5 := Lib.hid (Nat.le_trans HM1.out.2.size (Nat.le_refl _))
        clear hw5 hb5 hc5
        obtain ⟨T, hT⟩ : ∃ T, Hid (tot (shI n (capS zs) (skF zs) L k) n = T) := ⟨_, rfl⟩
        go_wp2_with fail
        refine (ssum_any A5 n c5 _ _ w5 HW5.out.rd (by omega) (HSh.out.mono (by omega) (by omega))).mono ?_
        rintro e w' ⟨rfl, rfl⟩
        rw [hT.out]
        by_cases hT0 : T = 0
        · have hTb : (T == 0) = true := by simp [hT0]
          have HStp : Hid (stp n (capS zs) (skF zs) L k) := by show tot _ _ = 0; rw [hT.out]; exact hT0
          clear hT0
          go_wp2
          go_ret
          exact ⟨rfl, HM5.out.to fun i hi => by unfold skI; rw [HFst.out HStp.out i hi]⟩
        · have hTb : (T == 0) = false := by simp [hT0]
          have HStp : Hid (¬ stp n (capS zs) (skF zs) L k) := by show ¬ tot _ _ = 0; rw [hT.out]; exact hT0
          clear hT0
          go_wp2
          go_loopw [2, 10] (fun sv iv wr => ∃ i : Nat, i ≤ n ∧ iv = .int .i64 i ∧ sv = .int .i64 (S - sm (mvI n (capS zs) (skF zs) L k) i) ∧ Hid (Mv w lo bo oo n (fun q => if q < i then skI zs n L (k + 1) q else skI zs n L k q) wr ∧ Wr wr w.heap.size A5 n (shI n (capS zs) (skF zs) L k))) (fun _ iv _ => n - (intOf iv).toNat)
          case atStart => exact ⟨0, Nat.zero_le _, rfl, vint (by simp [sm]), HM5.out.to fun i _ => by simp, HW5.out.low HZ5.out⟩
          case round =>
            obtain ⟨i, hi, rfl, rfl, hJ⟩ := hrel
            obtain ⟨r0, r1⟩ := mvS_bd Hw.out (by omega) Hc.out hL0 k i hi
            rw [hS'.out] at r1
            by_cases hlt2 : i < n
            · obtain ⟨q1, q2⟩ := skI_bd HV.out hL0 k hlt2
              obtain ⟨v1, v2, v3, v4, _, _⟩ := HV.out.at_ hlt2
              obtain ⟨s0, s1⟩ := HSh.out.getD i (by rw [shI_len]; exact hlt2)
              have hrl := hJ.out.1.rd H.out hl hlb
              obtain ⟨b, off, rfl, hb, hc⟩ := hrl.cell (by omega)
              obtain ⟨c0, c1, c2, c3, c4⟩ := at5 hc hlt2
              obtain ⟨_, _, hco⟩ := hJ.out.1.1.at_ (by omega)
              have cx := (hco i hlt2).1
              have fx' := (hco i hlt2).2
              rw [mk_getD _ _ _ hlt2, if_neg (by omega)] at cx
              obtain ⟨b5, o5, rfl, hl5, hb5, hc5⟩ := hJ.out.2.2 (by omega)
              have cs := (hc5 i hlt2).1
              obtain ⟨x, hx⟩ : ∃ x, Hid (skI zs n L k i = x) := ⟨_, rfl⟩
              obtain ⟨u, hu⟩ : ∃ u, Hid (mnF zs i = u) := ⟨_, rfl⟩
              obtain ⟨s, hs⟩ : ∃ s, Hid ((shI n (capS zs) (skF zs) L k).getD i 0 = s) := ⟨_, rfl⟩
              obtain ⟨R, hR⟩ : ∃ R, Hid (sm (mvI n (capS zs) (skF zs) L k) i = R) := ⟨_, rfl⟩
              obtain ⟨m, hm⟩ : ∃ m, Hid (min s (x - u) = m) := ⟨_, rfl⟩
              rw [show zs.getD (5 * i + 1) 0 = u from hu.out] at c1
              rw [hx.out] at cx q1 q2
              rw [hu.out] at q1 v1 v2
              rw [hs.out] at cs s0 s1
              rw [hR.out] at r0 r1 ⊢
              have hm0 : 0 ≤ m ∧ m ≤ x - u := by rw [← hm.out]; omega
              obtain ⟨m0, m1⟩ := hm0
              have Hmv : Hid (mvI n (capS zs) (skF zs) L k i = m) := by
                show _ = _
                unfold mvI
                rw [hs.out, ← hm.out, ← hx.out, ← hu.out]
                unfold skI capS
                congr 1
                omega
              have Hnew : Hid (skI zs n L (k + 1) i = x - m) := by
                show _ = _
                have e := dst_mv (n := n) (cap := capS zs) (wt := skF zs) (L := L) k i
                rw [Hmv.out] at e
                rw [← hx.out]; unfold skI; omega
              have j0 : (0 : Int) ≤ (i : Int) := by omega
              have j1 : (i : Int) < (n : Int) := by omega
              have w1' : IntKind.i64.wrap (x - u) = x - u := IntWalk.i64_in _ (by omega)
              clear hc hco hc5
              go_wp2
              go_quiet (fail)
              rw [hm.out]
              clear w1' c0 c1 c2 c3 c4 cs
              go_wp2
              have HN : Hid (Mv w lo bo oo n (fun q => if q < i + 1 then skI zs n L (k + 1) q else skI zs n L k q) ((wr.drewN nq).setCell ⟨bo, oo + i, none⟩ (.int .i64 (x - m))) ∧ Wr ((wr.drewN nq).setCell ⟨bo, oo + i, none⟩ (.int .i64 (x - m))) w.heap.size (some ⟨b5, o5, none⟩) n (shI n (capS zs) (skF zs) L k)) := by
                refine ⟨((hJ.out.1.drewN nq).set hlt2 (x - m)).to fun q _ => ?_, (hJ.out.2.drewN nq).grown (gb_one _ _ _) (fun r e => by injection e with e; rw [← e]; exact hbw)⟩
                by_cases h1 : q = i
                · subst h1; rw [if_pos rfl, if_pos (by omega), Hnew.out]
                · have : q < i + 1 ↔ q < i := by omega
                  simp [h1, this]
              go_roundw
              case rel => exact ⟨i + 1, by omega, by go_num, vint (by rw [sm, hR.out, Hmv.out]; omega), HN.out⟩
              case measure => simp [intOf]; omega
            · obtain rfl : n = i := by omega
              have HN : Hid (S - sm (mvI n (capS zs) (skF zs) L k) n = lfI n (capS zs) (skF zs) L (k + 1)) := by show _ = _; rw [lfI_mv, hS'.out]
              have hl2 := HLess.out HStp.out
              rw [hS'.out] at hl2
              rw [HN.out]
              have HK2 : Hid ((∀ j, j < k + 1 → ¬ stp n (capS zs) (skF zs) L j) ∧ Mv w lo bo oo n (skI zs n L (k + 1)) wr) := ⟨fun j hj => by
                rcases Nat.lt_or_ge j k with h1 | h1
                · exact hS.out.1 j h1
                · obtain rfl : j = k := by omega
                  exact HStp.out, hJ.out.1.to fun q hq => if_pos hq⟩
              go_wp2
              go_roundw
              case rel => exact ⟨k + 1, rfl, HK2.out⟩
              case measure =>
                have h9 := (lfI_bd Hw.out (by omega) Hc.out hL0 (k + 1)).1
                simp [intOf]; omega
end Go.Proofs.Ytjaecgobgpfbdaa
