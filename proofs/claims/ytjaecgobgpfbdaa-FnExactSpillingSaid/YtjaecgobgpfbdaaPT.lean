/- Plain laws on shares: more weight gets no less; shares and exact parts; scaled weights; equal weights. -/
import Derived.Test.YtjaecgobgpfbdaaPX
namespace Go.Proofs.Ytjaecgobgpfbdaa

section
variable {sp hi : Int} {ws : List Int}
theorem shr_mono (hs : 0 ≤ sp) (hb : AllB ws 0 hi) {i k : Nat} (hi' : i < ws.length) (hk : k < ws.length) (hlt : ws.getD k 0 < ws.getD i 0) : (shr sp ws).getD k 0 ≤ (shr sp ws).getD i 0 := by
  rw [shr_getD sp ws i hi', shr_getD sp ws k hk]
  split
  · exact Int.le_refl _
  rename_i hT
  have hp := tot_pos hb hT
  have e1 := bs_rs (sp := sp) (ws := ws) i
  have e2 := bs_rs (sp := sp) (ws := ws) k
  have b1 := rsW_bd (sp := sp) hp i
  have b2 := rsW_bd (sp := sp) hp k
  have hle : sp * ws.getD k 0 ≤ sp * ws.getD i 0 := Int.mul_le_mul_of_nonneg_left (by omega) hs
  have hbs : bsW sp ws k ≤ bsW sp ws i := Int.ediv_le_ediv hp hle
  unfold shT
  by_cases hk1 : k ∈ (ordW sp ws).take (kW sp ws).toNat
  · rw [if_pos hk1]
    by_cases hi1 : i ∈ (ordW sp ws).take (kW sp ws).toNat
    · rw [if_pos hi1]; omega
    · rw [if_neg hi1]
      rcases Int.lt_or_eq_of_le hbs with h | h
      · omega
      · exfalso
        rw [h] at e2
        have h1 := take_pw (ordOf_pw (rsW sp ws) ws.length) hk1 (ordOf_mem.2 hi') hi1
        have h2 := taken_pos hp hk1
        have h3 := ahd_le h1
        have h5 : sp * (ws.getD i 0 - ws.getD k 0) = 0 := by rw [Int.mul_sub]; omega
        rcases Int.mul_eq_zero.1 h5 with h6 | h6
        · subst h6
          unfold rsW at h2
          rw [Int.zero_mul, Int.zero_emod] at h2
          omega
        · omega
  · rw [if_neg hk1]; split <;> omega
theorem shr_dev (hb : AllB ws 0 hi) (hT : ¬ tot ws ws.length = 0) {i : Nat} (hi' : i < ws.length) :
    (shr sp ws).getD i 0 * tot ws ws.length - sp * ws.getD i 0 < tot ws ws.length ∧ -((shr sp ws).getD i 0 * tot ws ws.length - sp * ws.getD i 0) < tot ws ws.length := by
  have hp := tot_pos hb hT
  rw [shr_getD sp ws i hi', if_neg hT]
  have e1 := bs_rs (sp := sp) (ws := ws) i
  have b1 := rsW_bd (sp := sp) hp i
  unfold shT
  rw [Int.add_mul, Int.mul_comm (bsW sp ws i)]
  by_cases h : i ∈ (ordW sp ws).take (kW sp ws).toNat
  · rw [if_pos h]
    have := taken_pos hp h
    omega
  · rw [if_neg h]; omega
theorem ins_mul (r : Nat → Int) (a : Int) (ha : 0 < a) (x : Nat) (l : List Nat) : ins (fun i => a * r i) x l = ins r x l := by
  induction l with
  | nil => rfl
  | cons y ys ih =>
    simp only [ins]
    have e : a * r y < a * r x ↔ r y < r x := ⟨fun h => Int.lt_of_mul_lt_mul_left h (by omega), fun h => Int.mul_lt_mul_of_pos_left h ha⟩
    by_cases h : r y < r x
    · rw [if_pos h, if_pos (e.2 h)]
    · rw [if_neg h, if_neg (fun h2 => h (e.1 h2)), ih]
theorem ordOf_mul (r : Nat → Int) (a : Int) (ha : 0 < a) (n : Nat) : ordOf (fun i => a * r i) n = ordOf r n := by
  induction n with
  | zero => rfl
  | succ n ih => simp only [ordOf]; rw [ih, ins_mul r a ha]
theorem ordOf_congr {r r' : Nat → Int} (n : Nat) (h : ∀ i, i < n → r i = r' i) : ordOf r n = ordOf r' n := by
  induction n with
  | zero => rfl
  | succ n ih =>
    simp only [ordOf]
    rw [ih fun i hi => h i (by omega)]
    have key : ∀ l : List Nat, (∀ y ∈ l, y < n) → ins r n l = ins r' n l := by
      intro l
      induction l with
      | nil => intro _; rfl
      | cons y ys ih2 =>
        intro hl
        simp only [ins]
        rw [h n (by omega), h y (by have := hl y (by simp); omega), ih2 fun z hz => hl z (List.mem_cons_of_mem _ hz)]
    exact key _ fun y hy => ordOf_mem.1 hy
/- Weights a times as great. -/
theorem shr_scale (a : Int) (ha : 0 < a) : shr sp (mk ws.length fun i => a * ws.getD i 0) = shr sp ws := by
  have hl : (mk ws.length fun i => a * ws.getD i 0).length = ws.length := mk_len _ _
  have ht : tot (mk ws.length fun i => a * ws.getD i 0) ws.length = a * tot ws ws.length := by rw [tot_mk, sm_mul, ← tot_sm]
  have hg : ∀ i, i < ws.length → (mk ws.length fun i => a * ws.getD i 0).getD i 0 = a * ws.getD i 0 := fun i hi => mk_getD _ _ _ hi
  have hbs : ∀ i, i < ws.length → bsW sp (mk ws.length fun i => a * ws.getD i 0) i = bsW sp ws i := fun i hi => by
    unfold bsW
    rw [hl, ht, hg i hi, ← Int.mul_assoc, Int.mul_comm sp a, Int.mul_assoc, Int.mul_ediv_mul_of_pos _ _ ha]
  have hrs : ∀ i, i < ws.length → rsW sp (mk ws.length fun i => a * ws.getD i 0) i = a * rsW sp ws i := fun i hi => by
    unfold rsW
    rw [hl, ht, hg i hi, ← Int.mul_assoc, Int.mul_comm sp a, Int.mul_assoc, Int.mul_emod_mul_of_pos _ _ ha]
  have hk : kW sp (mk ws.length fun i => a * ws.getD i 0) = kW sp ws := by unfold kW; rw [hl, sm_congr _ hbs]
  have ho : ordW sp (mk ws.length fun i => a * ws.getD i 0) = ordW sp ws := by unfold ordW; rw [hl, ordOf_congr _ hrs, ordOf_mul _ a ha]
  unfold shr
  rw [hl, ht, hk]
  have hz : a * tot ws ws.length = 0 ↔ tot ws ws.length = 0 := by rw [Int.mul_eq_zero]; omega
  by_cases h0 : tot ws ws.length = 0
  · rw [if_pos h0, if_pos (hz.2 h0)]
  · rw [if_neg h0, if_neg (fun h => h0 (hz.1 h))]
    exact mk_congr _ _ _ fun i hi => by unfold shT; rw [hbs i hi, ho]
theorem ordOf_const (r : Nat → Int) (c : Int) (n : Nat) (h : ∀ i, i < n → r i = c) : ordOf r n = List.range n := by
  induction n with
  | zero => rfl
  | succ n ih =>
    simp only [ordOf]
    rw [ih fun i hi => h i (by omega), List.range_succ]
    have := ins_split (r := r) (x := n) (A := List.range n) (B := []) (fun a ha => by rw [h n (by omega), h a (by have := List.mem_range.1 ha; omega)]; exact Int.le_refl _) (by simp)
    simpa using this
/- Equal weights. -/
theorem shr_even {n : Nat} (hn : 0 < n) {i : Nat} (hi : i < n) : (shr sp (mk n fun _ => 1)).getD i 0 = sp / n + if (i : Int) < sp % n then 1 else 0 := by
  have hl : (mk n fun _ => (1 : Int)).length = n := mk_len _ _
  have ht : tot (mk n fun _ => (1 : Int)) n = n := by rw [tot_mk, sm_const]; omega
  have hbs : ∀ i, i < n → bsW sp (mk n fun _ => (1 : Int)) i = sp / n := fun i hi => by
    unfold bsW; rw [hl, ht, mk_getD _ _ _ hi, Int.mul_one]
  have hrs : ∀ i, i < n → rsW sp (mk n fun _ => (1 : Int)) i = sp % n := fun i hi => by
    unfold rsW; rw [hl, ht, mk_getD _ _ _ hi, Int.mul_one]
  have hk : kW sp (mk n fun _ => (1 : Int)) = sp % n := by
    unfold kW
    rw [hl, sm_congr _ hbs, sm_const]
    have := Int.mul_ediv_add_emod sp n
    rw [Int.mul_comm] at this
    omega
  have ho : ordW sp (mk n fun _ => (1 : Int)) = List.range n := by unfold ordW; rw [hl]; exact ordOf_const _ _ _ hrs
  rw [shr_getD _ _ _ (by rw [hl]; exact hi), hl, ht, if_neg (by omega)]
  unfold shT
  rw [hbs i hi, hk, ho]
  have h0 : 0 ≤ sp % n := Int.emod_nonneg _ (by omega)
  have h1 : sp % n < n := Int.emod_lt_of_pos _ (by omega)
  have e : i ∈ (List.range n).take (sp % n).toNat ↔ (i : Int) < sp % n := by
    rw [List.take_range, List.mem_range]; omega
  by_cases h : (i : Int) < sp % n
  · rw [if_pos h, if_pos (e.2 h)]
  · rw [if_neg h, if_neg (fun h2 => h (e.1 h2))]
end
end Go.Proofs.Ytjaecgobgpfbdaa
