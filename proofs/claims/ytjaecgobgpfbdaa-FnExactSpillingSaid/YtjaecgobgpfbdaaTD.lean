/- Paths in a tree, by the program and by the reference. -/
import Derived.Test.YtjaecgobgpfbdaaTC
namespace Go.Proofs.Ytjaecgobgpfbdaa
open Go.RowKit

/- A number among the first k of a list. -/
def hasI (zs : List Int) (n : Nat) (x : Int) : Bool := (List.range n).any fun k => zs.getD k 0 == x
theorem hasI_false {zs : List Int} {n : Nat} {x : Int} (h : ∀ j, j < n → ¬ zs.getD j 0 = x) : hasI zs n x = false := by
  unfold hasI
  rw [List.any_eq_false]
  intro k hk
  have := h k (List.mem_range.1 hk)
  simpa using this
theorem hasI_true {zs : List Int} {n k : Nat} {x : Int} (hk : k < n) (h : zs.getD k 0 = x) : hasI zs n x = true := by
  unfold hasI
  rw [List.any_eq_true]
  exact ⟨k, List.mem_range.2 hk, by simpa using h⟩
theorem hasI_ki (l : List Nat) (p : Nat) : hasI (ki l) l.length (p : Int) = l.contains p := by
  cases h : l.contains p
  · refine hasI_false fun j hj e => ?_
    have hm : ¬ p ∈ l := by simpa using h
    have : l[j] = p := by
      unfold ki at e
      rw [List.getD_eq_getElem?_getD, List.getElem?_map, List.getElem?_eq_getElem hj] at e
      simp at e; omega
    exact hm (this ▸ List.getElem_mem hj)
  · have hm : p ∈ l := by simpa using h
    obtain ⟨j, hj, e⟩ := List.mem_iff_getElem.1 hm
    refine hasI_true hj ?_
    unfold ki
    rw [List.getD_eq_getElem?_getD, List.getElem?_map, List.getElem?_eq_getElem hj, e]
    rfl
def FstIs (zs : List Int) (n : Nat) (x : Int) (w : World) (e : Ending) (w' : World) : Prop := ∃ r : Int, e = .returned (.int .i64 r) ∧ -1 ≤ r ∧ decide (0 ≤ r) = hasI zs n x ∧ w = w'
set_option maxHeartbeats 1000000 in
theorem index_any (A : Option Addr) (n c : Nat) (zs : List Int) (x : Int) (B : Nat) (w : World) (h : Rd w B A n zs) (hn : n ≤ 2000000) :
    Calls Try.prog 80 #[.slice A n c, .int .i64 x] w (FstIs zs n x w) := by
  have H := Lib.hid h
  clear h
  go_enter Try.func80, Try.ntmps80
  go_wp2
  go_loop [8] (fun i => ∃ k : Nat, k ≤ n ∧ i = .int .i64 k ∧ Hid (∀ j, j < k → ¬ zs.getD j 0 = x)) (fun i => n - (intOf i).toNat)
  case atStart => exact ⟨0, Nat.zero_le _, rfl, fun j hj => absurd hj (by omega)⟩
  case round =>
    obtain ⟨k, hk, rfl, hall⟩ := hrel
    by_cases hlt : k < n
    · obtain ⟨b, off, rfl, _, hc⟩ := H.out.cell (by omega)
      obtain ⟨v, hv⟩ : ∃ v, Hid (zs.getD k 0 = v) := ⟨_, rfl⟩
      have hcell : w.cell? ⟨b, off + k, none⟩ = some (.int .i64 v) := by rw [← hv.out]; exact hc k hlt
      clear hc
      by_cases hb : x = v
      · subst hb
        go_wp2
        go_ret
        exact ⟨_, rfl, by omega, by rw [hasI_true hlt hv.out]; simp, rfl⟩
      · go_wp2
        go_round
        case rel => exact ⟨k + 1, by omega, by go_num, Lib.hid fun j hj => by
          rcases Nat.lt_or_ge j k with h1 | h1
          · exact hall.out j h1
          · obtain rfl : j = k := by omega
            rw [hv.out]; exact fun e => hb e.symm⟩
        case measure => simp [intOf]; omega
    · obtain rfl : n = k := by omega
      go_wp2
      go_ret
      exact ⟨_, rfl, by omega, by rw [hasI_false hall.out]; simp, rfl⟩
theorem contains_any (A : Option Addr) (n c : Nat) (zs : List Int) (x : Int) (B : Nat) (w : World) (h : Rd w B A n zs) (hn : n ≤ 2000000) :
    Calls Try.prog 60 #[.slice A n c, .int .i64 x] w fun e w' => e = .returned (.bool (hasI zs n x)) ∧ w = w' := by
  have H := Lib.hid h
  clear h
  go_enter Try.func60, Try.ntmps60
  go_wp2_with fail
  refine (index_any A n c zs x B w H.out hn).mono ?_
  rintro e w' ⟨r, rfl, h1, h2, rfl⟩
  go_wp2
  go_ret
  exact ⟨rfl, rfl⟩
/- A list turned round from both ends. -/
def rvF (zs : List Int) (n k q : Nat) : Int := if q < k ∨ n - k ≤ q then zs.getD (n - 1 - q) 0 else zs.getD q 0
theorem rv_step {zs : List Int} {n k : Nat} (h : k < n - 1 - k) : ((mk n (rvF zs n k)).set k (rvF zs n k (n - 1 - k))).set (n - 1 - k) (rvF zs n k k) = mk n (rvF zs n (k + 1)) := by
  rw [mk_set _ _ _ _ (by omega), mk_set _ _ _ _ (by omega)]
  refine mk_congr _ _ _ fun q hq => ?_
  unfold rvF
  by_cases h1 : q = n - 1 - k
  · subst h1
    rw [if_pos rfl, if_neg (by omega), if_pos (by omega)]
    rw [show n - 1 - (n - 1 - k) = k by omega]
  · rw [if_neg h1]
    by_cases h2 : q = k
    · subst h2
      rw [if_pos rfl, if_neg (by omega), if_pos (by omega)]
    · rw [if_neg h2]
      by_cases h3 : q < k ∨ n - k ≤ q
      · rw [if_pos h3, if_pos (by omega)]
      · rw [if_neg h3, if_neg (by omega)]
theorem rv_end {zs : List Int} {n k : Nat} (hl : zs.length = n) (h : n - 1 - k ≤ k) : mk n (rvF zs n k) = zs.reverse := by
  refine getD_of_getElem? (by rw [mk_len, List.length_reverse, hl]) fun q hq => ?_
  rw [mk_len] at hq
  rw [mk_getD _ _ _ hq]
  have e : zs.reverse.getD q 0 = zs.getD (n - 1 - q) 0 := by
    rw [List.getD_eq_getElem?_getD, List.getD_eq_getElem?_getD, List.getElem?_reverse (by omega), hl]
  rw [e]
  unfold rvF
  by_cases h1 : q < k ∨ n - k ≤ q
  · rw [if_pos h1]
  · rw [if_neg h1]
    rw [show n - 1 - q = q by omega]
theorem rv_start (zs : List Int) (n : Nat) (hl : zs.length = n) : mk n (rvF zs n 0) = zs := by
  refine getD_of_getElem? (by rw [mk_len, hl]) fun q hq => ?_
  rw [mk_len] at hq
  rw [mk_getD _ _ _ hq]
  unfold rvF
  rw [if_neg (by omega)]
def Turned (w : World) (lo b off n : Nat) (zs : List Int) (e : Ending) (w' : World) : Prop := e = .returned (.tuple #[]) ∧ Wr w' lo (some ⟨b, off, none⟩) n zs ∧ w.grownBy w' (some b)
set_option maxHeartbeats 4000000 in
theorem reverse_any (b off n c lo : Nat) (zs : List Int) (w : World) (h : Wr w lo (some ⟨b, off, none⟩) n zs) (h0 : 0 < n) (hn : n ≤ 2000000) :
    Calls Try.prog 81 #[.slice (some ⟨b, off, none⟩) n c] w (Turned w lo b off n zs.reverse) := by
  have H := Lib.hid h
  have HL := Lib.hid h.len
  clear h
  have h1 : (0 : Int) < (n : Int) := by omega
  go_enter Try.func81, Try.ntmps81
  go_wp2
  go_loopw [2, 3] (fun i j wr => ∃ (k : Nat) (J : Int), 2 * k ≤ n ∧ i = .int .i64 k ∧ j = .int .i64 J ∧ J = (n : Int) - 1 - k ∧ Hid (Wr wr lo (some ⟨b, off, none⟩) n (mk n (rvF zs n k)) ∧ w.grownBy wr (some b))) (fun i _ _ => n - (intOf i).toNat)
  case atStart => exact ⟨0, (n : Int) - 1, by omega, by go_num, rfl, by omega, by rw [rv_start zs n HL.out]; exact Lib.hid ⟨H.out, World.grownBy.refl w _⟩⟩
  case round =>
    obtain ⟨k, J, hk, rfl, rfl, hJ, hS⟩ := hrel
    by_cases hlt : (k : Int) < J
    · obtain ⟨q, hq⟩ : ∃ q : Nat, J = (q : Int) := ⟨J.toNat, by omega⟩
      subst hq
      have hqk : Hid (q = n - 1 - k) := Lib.hid (by omega)
      have hqn : q < n := by omega
      obtain ⟨_, hbl, hc⟩ := hS.out.1.at_ h0
      have c1 := (hc k (by omega)).1
      have f1 := (hc k (by omega)).2
      have c2 := (hc q (by omega)).1
      have f2 := (hc q (by omega)).2
      rw [mk_getD _ _ _ (by omega)] at c1 c2
      obtain ⟨x, hx⟩ : ∃ x, Hid (rvF zs n k k = x) := ⟨_, Lib.hid rfl⟩
      obtain ⟨y, hy⟩ : ∃ y, Hid (rvF zs n k q = y) := ⟨_, Lib.hid rfl⟩
      rw [hx.out] at c1
      rw [hy.out] at c2
      have hk0 : (0 : Int) ≤ (k : Int) := by omega
      have hk1 : (k : Int) < (n : Int) := by omega
      have hq0 : (0 : Int) ≤ (q : Int) := by omega
      have hq1 : (q : Int) < (n : Int) := by omega
      have hne : ¬ k = q := by omega
      clear hc
      have HJ := Lib.hid hJ
      clear hJ
      go_wp2
      go_region
      go_wp2
      go_roundw
      case rel =>
        have hJ := HJ.out
        refine ⟨k + 1, _, by omega, by go_num, rfl, by omega, ?_⟩
        obtain ⟨h4, h5⟩ := hS.out
        have h6 := ((h4.drewN 1).set (k := k) (by omega) y).set (k := q) (by omega) x
        rw [← hx.out, ← hy.out, hqk.out, rv_step (by have := hqk.out; omega)] at h6
        rw [← hx.out, ← hy.out, hqk.out]
        exact Lib.hid ⟨h6, gb_set (gb_set (gb_drewN h5 _) (.inl rfl) _) (.inl rfl) _⟩
      case measure => simp [intOf]; omega
    · have HJ := Lib.hid hJ
      clear hJ
      go_wp2
      go_end0
      obtain ⟨h4, h5⟩ := hS.out
      rw [rv_end HL.out (by have := HJ.out; omega)] at h4
      exact ⟨rfl, h4, h5⟩
end Go.Proofs.Ytjaecgobgpfbdaa
