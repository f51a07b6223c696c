/- Valid trees, by the reference. -/
import Derived.Test.YtjaecgobgpfbdaaTE
import Derived.Lib.MinMax
namespace Go.Proofs.Ytjaecgobgpfbdaa
open Go.RowKit

theorem inAll_false {zs : List Int} {n k : Nat} (hk : k < n) (h : inOk zs k = false) : ((List.range n).all fun i => inOk zs i) = false := by
  rw [List.all_eq_false]
  exact ⟨k, List.mem_range.2 hk, by rw [h]; decide⟩
theorem inAll_true {zs : List Int} {n : Nat} (h : ∀ k, k < n → inOk zs k = true) : ((List.range n).all fun i => inOk zs i) = true := by
  rw [List.all_eq_true]
  exact fun k hk => h k (List.mem_range.1 hk)
theorem inOk_pos {zs : List Int} {k p : Nat} (h0 : 0 < k) (hp : parB zs k = (p : Int)) : inOk zs k = (pth zs (k - 1)).contains p := by
  unfold inOk
  have e1 : decide (k = 0) = false := by simp; omega
  rw [e1, Bool.false_or, hp, Int.toNat_natCast]
set_option maxHeartbeats 4000000 in
theorem inOrder_any (A : Option Addr) (n c : Nat) (zs : List Int) (B : Nat) (w : World) (h : Rd w B A (9 * n) zs) (hn : n ≤ 1500000) (hp : PK zs n) :
    Calls Try.prog 76 #[.slice A n c] w fun e w' => e = .returned (.bool ((List.range n).all fun i => inOk zs i)) ∧ w = w' := by
  have H := Lib.hid h
  have HP := Lib.hid hp
  clear h hp
  go_enter Try.func76, Try.ntmps76
  go_wp2
  go_loop [3, 4] (fun i _ => ∃ k : Nat, 1 ≤ k ∧ k ≤ max n 1 ∧ i = .int .i64 k ∧ Hid (∀ j, j < k → inOk zs j = true)) (fun i _ => n + 1 - (intOf i).toNat)
  case atStart => exact ⟨1, Nat.le_refl _, by omega, rfl, Lib.hid fun j hj => by obtain rfl : j = 0 := by omega
                                                                                 rfl⟩
  case round =>
    obtain ⟨k, hk1, hk, rfl, hall⟩ := hrel
    by_cases hlt : k < n
    · obtain ⟨b, off, rfl, _, hc⟩ := H.out.cell (by omega)
      have hkn : (k : Int) < (n : Int) := by omega
      have hk0 : (0 : Int) ≤ (k : Int) := by omega
      obtain ⟨p, hpe, hpk, hpn⟩ := HP.out.up hlt ((HP.out k hlt).2 hk1).1
      have c0 := parCell hc hlt
      rw [hpe] at c0
      have HI := Lib.hid (inOk_pos hk1 hpe)
      obtain ⟨R, hR⟩ : ∃ R, Hid (inOk zs k = R) := ⟨_, Lib.hid rfl⟩
      have hkm : (k : Int) - 1 = ((k - 1 : Nat) : Int) := by omega
      obtain ⟨q0, hq0⟩ : ∃ q0 : Nat, Hid (k - 1 = q0) := ⟨_, Lib.hid rfl⟩
      rw [hq0.out] at hkm
      have hwr : IntKind.i64.wrap ((k : Int) - 1) = ((q0 : Nat) : Int) := by rw [← hkm]; exact IntWalk.i64_in _ (by omega)
      have hq0n : q0 < k := by have := hq0.out; omega
      clear hpe hkm
      have HC := Lib.hid hc
      clear hc
      go_wp2
      go_loop [4] (fun i => ∃ t : Int, -1 ≤ t ∧ i = .int .i64 t ∧ Hid ((t = -1 ∧ R = false) ∨ ∃ q : Nat, t = q ∧ q < k ∧ (pth zs q).contains p = R)) (fun i => (intOf i + 1).toNat)
      case atStart => exact ⟨q0, by omega, rfl, Lib.hid (.inr ⟨q0, rfl, hq0n, by rw [← hR.out, HI.out, hq0.out]⟩)⟩
      case round =>
        obtain ⟨t, ht, rfl, hT⟩ := hrel
        by_cases htl : 0 ≤ t
        · obtain ⟨q, hq⟩ : ∃ q : Nat, Hid (t = (q : Int) ∧ q < k ∧ (pth zs q).contains p = R) := by
            rcases hT.out with ⟨e, _⟩ | h1
            · omega
            · exact h1
          obtain rfl := hq.out.1
          have hqk := hq.out.2.1
          have hqn : (q : Int) < (n : Int) := by omega
          by_cases hqp : q = p
          · subst hqp
            obtain rfl : true = R := (cont_self HP.out (show q < n by omega)).symm.trans hq.out.2.2
            go_wp2
            go_round
            case rel => exact ⟨k + 1, by omega, by omega, by go_num, Lib.hid fun j hj => by
              rcases Nat.lt_or_ge j k with h1 | h1
              · exact hall.out j h1
              · obtain rfl : j = k := by omega
                exact hR.out⟩
            case measure => simp [intOf]; omega
          · have d0 := parCell HC.out (show q < n by omega)
            obtain ⟨x0, h0⟩ : ∃ x, Hid (parB zs q = x) := ⟨_, Lib.hid rfl⟩
            rw [h0.out] at d0
            have hqp' : ¬ (q : Int) = (p : Int) := by omega
            go_wp2
            go_round
            case rel =>
              refine ⟨x0, by rw [← h0.out]; exact HP.out.ge (by omega), rfl, ?_⟩
              by_cases hx : 0 ≤ x0
              · obtain ⟨r, e, hlt', hn'⟩ := HP.out.up (show q < n by omega) (by rw [h0.out]; exact hx)
                refine Lib.hid (.inr ⟨r, h0.out.symm.trans e, by omega, ?_⟩)
                have h5 := hq.out.2.2
                rw [pth_up HP.out (by omega) e, cont_app _ _ _ hqp] at h5
                exact h5
              · obtain ⟨e, e0⟩ := pth_top HP.out (show q < n by omega) (by rw [h0.out]; omega)
                refine Lib.hid (.inl ⟨by have := HP.out.ge (show q < n by omega); rw [h0.out] at this; omega, ?_⟩)
                have h5 := hq.out.2.2
                rw [e, show [q] = [] ++ [q] from rfl, cont_app _ _ _ hqp] at h5
                exact h5.symm
            case measure =>
              have := HP.out.lt (show q < n by omega)
              rw [h0.out] at this
              simp [intOf]; omega
        · have htm : t = -1 := by omega
          have hRf : R = false := by
            rcases hT.out with ⟨_, e⟩ | ⟨q, e, _⟩
            · exact e
            · omega
          subst htm
          subst hRf
          go_wp2
          go_ret
          exact ⟨ret_bool (inAll_false hlt hR.out).symm, rfl⟩
    · have hkn : ¬ (k : Int) < (n : Int) := by omega
      go_wp2
      go_ret
      exact ⟨ret_bool (inAll_true fun j hj => hall.out j (by omega)).symm, rfl⟩
end Go.Proofs.Ytjaecgobgpfbdaa
