/- The library's stable sort of a few numbers by their rests. -/
import Derived.Test.YtjaecgobgpfbdaaSA
namespace Go.Proofs.Ytjaecgobgpfbdaa
open Go.RowKit

def cmpI (a b : Int) : Int := if a < b then -1 else if b < a then 1 else 0
theorem cmpI_lt {a b : Int} : cmpI a b < 0 ↔ a < b := by unfold cmpI; split <;> (try split) <;> omega
set_option maxHeartbeats 400000 in
theorem isNaN_any (a : Int) (w : World) : Calls Try.prog 107 #[.int .i64 a] w fun e w' => e = .returned (.bool false) ∧ w = w' := by
  go_enter Try.func107, Try.ntmps107
  go_wp2
  go_ret
  exact ⟨ret_bool (by simp), rfl⟩
set_option maxHeartbeats 1000000 in
theorem compare_any (a b : Int) (w : World) : Calls Try.prog 103 #[.int .i64 a, .int .i64 b] w fun e w' => e = .returned (.int .i64 (cmpI a b)) ∧ w' = w := by
  rcases Int.lt_trichotomy a b with h | h | h
  · have e : cmpI a b = -1 := by unfold cmpI; rw [if_pos h]
    rw [e]
    clear e
    go_enter Try.func103, Try.ntmps103
    go_wp2_with (go_at_call 107; ((with_reducible refine (isNaN_any _ _).mono ?_); rintro e w' ⟨rfl, rfl⟩))
    go_ret
    exact ⟨rfl, rfl⟩
  · subst h
    have e : cmpI a a = 0 := by unfold cmpI; rw [if_neg (by omega), if_neg (by omega)]
    rw [e]
    clear e
    go_enter Try.func103, Try.ntmps103
    go_wp2_with (go_at_call 107; ((with_reducible refine (isNaN_any _ _).mono ?_); rintro e w' ⟨rfl, rfl⟩))
    go_ret
    exact ⟨rfl, rfl⟩
  · have e : cmpI a b = 1 := by unfold cmpI; rw [if_neg (by omega), if_pos h]
    rw [e]
    clear e
    go_enter Try.func103, Try.ntmps103
    go_wp2_with (go_at_call 107; ((with_reducible refine (isNaN_any _ _).mono ?_); rintro e w' ⟨rfl, rfl⟩))
    go_ret
    exact ⟨rfl, rfl⟩
/- What the comparison of share reads: the space, the weights and their sum. -/
def Env (w : World) (lo g1 g2 g3 : Nat) (sp T : Int) (A : Option Addr) (n c : Nat) (ws : List Int) : Prop :=
  g1 < lo ∧ g2 < lo ∧ g3 < lo ∧ w.cell? ⟨g1, 0, none⟩ = some (.int .i64 sp) ∧ w.cell? ⟨g2, 0, none⟩ = some (.slice A n c) ∧ w.cell? ⟨g3, 0, none⟩ = some (.int .i64 T) ∧ Rd w lo A n ws
theorem Env.keep {w w' : World} {lo g1 g2 g3 : Nat} {sp T : Int} {A : Option Addr} {n c : Nat} {ws : List Int} (h : Env w lo g1 g2 g3 sp T A n c ws) (hk : ∀ b o, b < lo → w'.cell? ⟨b, o, none⟩ = w.cell? ⟨b, o, none⟩) : Env w' lo g1 g2 g3 sp T A n c ws := by
  obtain ⟨h1, h2, h3, h4, h5, h6, h7⟩ := h
  exact ⟨h1, h2, h3, (hk _ _ h1).trans h4, (hk _ _ h2).trans h5, (hk _ _ h3).trans h6, h7.keep hk⟩
theorem Env.grown {w w' : World} {lo g1 g2 g3 b : Nat} {sp T : Int} {A : Option Addr} {n c : Nat} {ws : List Int} (h : Env w lo g1 g2 g3 sp T A n c ws) (hl : lo ≤ w.heap.size) (hb : lo ≤ b) (hg : w.grownBy w' (some b)) : Env w' lo g1 g2 g3 sp T A n c ws :=
  h.keep fun b' o hlt => World.cell?_of_block (hg.block b' (by omega) (fun e => by injection e with e; omega))
def Drawn (w : World) (v : Value) (e : Ending) (w' : World) : Prop := e = .returned v ∧ ∃ m, w' = w.drewN m
set_option maxHeartbeats 1000000 in
theorem shcmp_any (i k : Nat) (lo g1 g2 g3 : Nat) (sp T : Int) (A : Option Addr) (n c : Nat) (ws : List Int) (cv : Int) (w : World) (h : Env w lo g1 g2 g3 sp T A n c ws) (hn : n ≤ 16) (hi : i < n) (hk : k < n) (hT0 : 0 < T) (hT1 : T ≤ 3200000) (hs0 : 0 ≤ sp) (hs1 : sp ≤ 200000) (hb : AllB ws 0 200000) (hv : cmpI (sp * ws.getD k 0 % T) (sp * ws.getD i 0 % T) = cv) :
    Calls Try.prog 102 #[.int .i64 i, .int .i64 k, .pointer (some ⟨g1, 0, none⟩), .pointer (some ⟨g2, 0, none⟩), .pointer (some ⟨g3, 0, none⟩)] w (Drawn w (.int .i64 cv)) := by
  obtain ⟨h1, h2, h3, h4, h5, h6, h7⟩ := h
  obtain ⟨u0, u1⟩ := hb.getD k (by rw [h7.1]; exact hk)
  obtain ⟨v0, v1⟩ := hb.getD i (by rw [h7.1]; exact hi)
  obtain ⟨b, off, rfl, _, hc⟩ := h7.cell (by omega)
  have c1 := hc k hk
  have c2 := hc i hi
  obtain ⟨u, hu⟩ : ∃ u, Hid (ws.getD k 0 = u) := ⟨_, rfl⟩
  obtain ⟨v, hv'⟩ : ∃ u, Hid (ws.getD i 0 = u) := ⟨_, rfl⟩
  rw [hu.out] at u0 u1 c1 hv
  rw [hv'.out] at v0 v1 c2 hv
  obtain ⟨p0, p1⟩ := prod_bd hs0 hs1 u0 u1
  obtain ⟨q0, q1⟩ := prod_bd hs0 hs1 v0 v1
  have d0 : 0 ≤ sp * u % T := Int.emod_nonneg _ (by omega)
  have d1 : sp * u % T < T := Int.emod_lt_of_pos _ hT0
  have e0 : 0 ≤ sp * v % T := Int.emod_nonneg _ (by omega)
  have e1 : sp * v % T < T := Int.emod_lt_of_pos _ hT0
  have hTz : (T == 0) = false := by simp; omega
  have hi0 : (0 : Int) ≤ (i : Int) := by omega
  have hi1 : (i : Int) < (n : Int) := by omega
  have hk0 : (0 : Int) ≤ (k : Int) := by omega
  have hk1 : (k : Int) < (n : Int) := by omega
  have m1 : IntKind.i64.wrap (sp * u) = sp * u := IntWalk.i64_in _ (by omega)
  have m2 : IntKind.i64.wrap (sp * v) = sp * v := IntWalk.i64_in _ (by omega)
  have m3 : (sp * u).tmod T = sp * u % T := Int.tmod_eq_emod_of_nonneg p0
  have m4 : (sp * v).tmod T = sp * v % T := Int.tmod_eq_emod_of_nonneg q0
  have m5 : IntKind.i64.wrap (sp * u % T) = sp * u % T := IntWalk.i64_in _ (by omega)
  have m6 : IntKind.i64.wrap (sp * v % T) = sp * v % T := IntWalk.i64_in _ (by omega)
  have HV := Lib.hid hv
  clear hc hv h7 hu hv' hb
  go_enter Try.func102, Try.ntmps102
  go_wp2
  go_quiet ((go_at_call 103; exact Calls.quiet_of_same (compare_any _ _ _)))
  go_wp2
  go_ret
  exact ⟨by rw [HV.out]; rfl, _, rfl⟩
def nl (l : List Nat) : List Int := l.map fun (x : Nat) => (x : Int)
theorem nl_len (l : List Nat) : (nl l).length = l.length := by simp [nl]
theorem nl_app (l l' : List Nat) : nl (l ++ l') = nl l ++ nl l' := by simp [nl]
theorem nl_getD (l : List Nat) (k : Nat) (h : k < l.length) : (nl l).getD k 0 = (l.getD k 0 : Nat) := by
  simp [nl, List.getD_eq_getElem?_getD, List.getElem?_map, List.getElem?_eq_getElem h]
theorem sw_get0 (P : List Int) (a : Int) (Q : List Int) : (P ++ a :: Q).getD P.length 0 = a := by
  simp [List.getD_eq_getElem?_getD]
theorem sw_get1 (P : List Int) (a b : Int) (Q : List Int) : (P ++ a :: b :: Q).getD (P.length + 1) 0 = b := by
  rw [show P ++ a :: b :: Q = (P ++ [a]) ++ b :: Q by simp]
  have := sw_get0 (P ++ [a]) b Q
  rwa [List.length_append] at this
theorem sw_set (P : List Int) (a b : Int) (Q : List Int) : ((P ++ a :: b :: Q).set (P.length + 1) a).set P.length b = P ++ b :: a :: Q := by
  induction P with
  | nil => rfl
  | cons p P ih => simp only [List.cons_append, List.length_cons, List.set_cons_succ]; rw [ih]
theorem sw_set' (P : List Int) (a b : Int) (Q : List Int) : ((P ++ a :: b :: Q).set P.length b).set (P.length + 1) a = P ++ b :: a :: Q := by
  induction P with
  | nil => rfl
  | cons p P ih => simp only [List.cons_append, List.length_cons, List.set_cons_succ]; rw [ih]
/- The row that is sorted: behind A stands x, then B, then what was not met yet. -/
def rowOf (A : List Nat) (x : Nat) (B : List Nat) (n : Nat) : List Int := nl A ++ (x : Int) :: nl (B ++ List.range' (x + 1) (n - (x + 1)))
theorem rowOf_at {A : List Nat} {x : Nat} {B : List Nat} {n k : Nat} (hk : A.length = k) : (rowOf A x B n).getD k 0 = x := by
  subst hk
  have := sw_get0 (nl A) x (nl (B ++ List.range' (x + 1) (n - (x + 1))))
  rwa [nl_len] at this
theorem rowOf_prev {A : List Nat} {y x : Nat} {B : List Nat} {n k : Nat} (hk : A.length + 1 = k) : (rowOf (A ++ [y]) x B n).getD (k - 1) 0 = y := by
  subst hk
  have := sw_get0 (nl A) y ((x : Int) :: nl (B ++ List.range' (x + 1) (n - (x + 1))))
  rw [nl_len] at this
  unfold rowOf
  rw [nl_app]
  simpa only [nl, List.map_cons, List.map_nil, List.append_assoc, List.cons_append, List.nil_append, Nat.add_sub_cancel] using this
theorem rowOf_swap {A : List Nat} {y x : Nat} {B : List Nat} {n k : Nat} (hk : A.length + 1 = k) : ((rowOf (A ++ [y]) x B n).set k y).set (k - 1) x = rowOf A x (y :: B) n := by
  subst hk
  have := sw_set (nl A) y x (nl (B ++ List.range' (x + 1) (n - (x + 1))))
  rw [nl_len] at this
  unfold rowOf
  rw [nl_app]
  simpa only [nl, List.map_cons, List.map_nil, List.append_assoc, List.cons_append, List.nil_append, Nat.add_sub_cancel] using this
theorem rowOf_start (r : Nat → Int) {x n : Nat} (h : x < n) : rowOf (ordOf r x) x [] n = nl (ordOf r x ++ List.range' x (n - x)) := by
  unfold rowOf
  rw [nl_app, show n - x = (n - (x + 1)) + 1 from by omega, List.range'_succ]
  simp [nl]
theorem rowOf_end (r : Nat → Int) {A B : List Nat} {x n : Nat} (he : ins r x (A ++ B) = A ++ x :: B) (ho : A ++ B = ordOf r x) : rowOf A x B n = nl (ordOf r (x + 1) ++ List.range' (x + 1) (n - (x + 1))) := by
  unfold rowOf
  rw [ordOf, ← ho, he]
  simp [nl]
def Sorted (w : World) (lo b off n : Nat) (zs : List Int) (e : Ending) (w' : World) : Prop := e = .returned (.tuple #[]) ∧ Wr w' lo (some ⟨b, off, none⟩) n zs ∧ w.grownBy w' (some b)
set_option maxHeartbeats 4000000 in
theorem insSort_any (b off c0 : Nat) (lo g1 g2 g3 : Nat) (sp T : Int) (A : Option Addr) (n c : Nat) (ws : List Int) (w : World) (h : Env w lo g1 g2 g3 sp T A n c ws) (hn1 : 1 ≤ n) (hn : n ≤ 16) (hT0 : 0 < T) (hT1 : T ≤ 3200000) (hs0 : 0 ≤ sp) (hs1 : sp ≤ 200000) (hb : AllB ws 0 200000) (hT : tot ws ws.length = T) (hl : lo ≤ w.heap.size) (hW : Wr w lo (some ⟨b, off, none⟩) n (nl (List.range n))) :
    Calls Try.prog 110 #[.slice (some ⟨b, off, none⟩) n c0, .int .i64 0, .int .i64 n, .func (.func 102) #[] #[.pointer (some ⟨g1, 0, none⟩), .pointer (some ⟨g2, 0, none⟩), .pointer (some ⟨g3, 0, none⟩)]] w (Sorted w lo b off n (nl (ordW sp ws))) := by
  have HE := Lib.hid h
  have HB := Lib.hid hb
  have HT := Lib.hid hT
  have HW := Lib.hid hW
  have hlb : lo ≤ b := (hW.at_ (by omega)).1
  have hlen := Lib.hid h.2.2.2.2.2.2.1
  obtain ⟨r, hr⟩ : ∃ r, Hid (rsW sp ws = r) := ⟨_, rfl⟩
  have HO : Hid (ordW sp ws = ordOf r n) := by unfold ordW; rw [hr.out, hlen.out]; rfl
  have HR : Hid (∀ i, sp * ws.getD i 0 % T = r i) := fun i => by rw [← hr.out, ← HT.out]; rfl
  clear h hb hT hW
  go_enter Try.func110, Try.ntmps110
  go_wp2
  go_loopw [8] (fun iv wr => ∃ i : Nat, 1 ≤ i ∧ i ≤ n ∧ iv = .int .i64 i ∧ Hid (Wr wr lo (some ⟨b, off, none⟩) n (nl (ordOf r i ++ List.range' i (n - i))) ∧ w.grownBy wr (some b))) (fun iv _ => n - (intOf iv).toNat)
  case atStart =>
    refine ⟨1, Nat.le_refl _, hn1, rfl, ?_, World.grownBy.refl w _⟩
    have e : ordOf r 1 ++ List.range' 1 (n - 1) = List.range n := by
      rw [show ordOf r 1 = [0] from rfl, List.range_eq_range', show n = (n - 1) + 1 from by omega, List.range'_succ]; simp
    rw [e]; exact HW.out
  case round =>
    obtain ⟨i, hi1, hi, rfl, hS⟩ := hrel
    by_cases hlt : i < n
    · go_wp2
      obtain ⟨wo, rfl⟩ : ∃ wo : World, wo = wr := ⟨_, rfl⟩
      go_loopw [9] (fun jv wr => ∃ (k : Nat) (P B : List Nat), jv = .int .i64 k ∧ Hid (P.length = k ∧ P ++ B = ordOf r i ∧ (∀ z ∈ B, r z < r i) ∧ Wr wr lo (some ⟨b, off, none⟩) n (rowOf P i B n) ∧ w.grownBy wr (some b))) (fun jv _ => (intOf jv).toNat)
      case atStart => exact ⟨i, ordOf r i, [], rfl, ordOf_len _ _, List.append_nil _, (fun z hz => by cases hz), by rw [rowOf_start r hlt]; exact hS.out.1, hS.out.2⟩
      case round =>
        obtain ⟨k, P, B, rfl, hI⟩ := hrel
        have hki : k ≤ i := by
          obtain ⟨h1, h2, _⟩ := hI.out
          have h3 := ordOf_len r i
          rw [← h2, List.length_append] at h3
          omega
        by_cases hk0 : k = 0
        · subst hk0
          have HN : Hid (Wr wr lo (some ⟨b, off, none⟩) n (nl (ordOf r (i + 1) ++ List.range' (i + 1) (n - (i + 1)))) ∧ w.grownBy wr (some b)) := by
            obtain ⟨h1, h2, h3, h4, h5⟩ := hI.out
            have hP : P = [] := List.eq_nil_of_length_eq_zero h1
            subst hP
            rw [rowOf_end r (ins_split (by simp) h3) h2] at h4
            exact ⟨h4, h5⟩
          go_wp2
          go_quiet (fail)
          go_wp2
          go_roundw
          case rel => exact ⟨i + 1, by omega, by omega, by go_num, HN.out.1, gb_drewN HN.out.2 _⟩
          case measure => simp [intOf]; omega
        · have hk1 : 1 ≤ k := by omega
          obtain ⟨Q, y, hQ⟩ : ∃ Q y, Hid (P = Q ++ [y]) := by
            have h1 := hI.out.1
            rcases List.eq_nil_or_concat P with h2 | ⟨Q, y, h2⟩
            · rw [h2] at h1; simp at h1; omega
            · exact ⟨Q, y, by rw [h2]; show _ = _; simp⟩
          have hQl : Hid (Q.length + 1 = k) := by
            have h1 := hI.out.1
            rw [hQ.out] at h1; simp at h1; exact h1
          have hyi : y < i := by
            have : y ∈ ordOf r i := by rw [← hI.out.2.1, hQ.out]; simp
            exact ordOf_mem.1 this
          obtain ⟨_, hbl, hc⟩ := hI.out.2.2.2.1.at_ (by omega)
          have c1 := (hc k (by omega)).1
          have f1 := (hc k (by omega)).2
          have c2 := (hc (k - 1) (by omega)).1
          have f2 := (hc (k - 1) (by omega)).2
          rw [rowOf_at hI.out.1] at c1
          rw [hQ.out, rowOf_prev hQl.out] at c2
          have HE2 := Lib.hid (HE.out.grown hl hlb hI.out.2.2.2.2)
          obtain ⟨cv, hcv⟩ : ∃ cv, Hid (cmpI (r y) (r i) = cv) := ⟨_, rfl⟩
          have hcl : cv < 0 ↔ r y < r i := by rw [← hcv.out]; exact cmpI_lt
          have hk2 : decide (0 < k) = true := by simp; omega
          have hk8 : (0 : Int) ≤ (k : Int) := by omega
          have hk3 : (0 : Int) ≤ (k : Int) - 1 := by omega
          have hk4 : IntKind.i64.wrap ((k : Int) - 1) = (k : Int) - 1 := IntWalk.i64_in _ (by omega)
          have hk5 : ((k : Int) - 1).toNat = k - 1 := by omega
          have hk6 : (k : Int) < (n : Int) := by omega
          have hk7 : (k : Int) - 1 < (n : Int) := by omega
          have HC : Hid (cmpI (sp * ws.getD y 0 % T) (sp * ws.getD i 0 % T) = cv) := by rw [HR.out y, HR.out i]; exact hcv
          by_cases hlt2 : r y < r i
          · have hcv0 : cv < 0 := hcl.2 hlt2
            clear hcl hc
            go_wp2
            go_quiet ((go_at_call 102; exact Calls.quiet_of (shcmp_any i y lo g1 g2 g3 sp T A n c ws cv _ (HE2.out.keep fun _ _ _ => rfl) hn hlt (by omega) hT0 hT1 hs0 hs1 HB.out HC.out)))
            go_wp2
            go_region
            go_wp2
            go_roundw
            case rel =>
              obtain ⟨h1, h2, h3, h4, h5⟩ := hI.out
              have h6 := ((h4.drewN (nq + 1)).set (k := k) (by omega) y).set (k := k - 1) (by omega) i
              rw [hQ.out, rowOf_swap hQl.out] at h6
              refine ⟨k - 1, Q, y :: B, by go_num, by have := hQl.out; omega, by rw [← h2, hQ.out]; simp, fun z hz => ?_, h6, gb_set (gb_set (gb_drewN h5 _) (.inl rfl) _) (.inl rfl) _⟩
              rcases List.mem_cons.1 hz with rfl | hz
              · exact hlt2
              · exact h3 z hz
            case measure => simp [intOf]; omega
          · have hcv0 : 0 ≤ cv := by omega
            clear hcl hc
            go_wp2
            go_quiet ((go_at_call 102; exact Calls.quiet_of (shcmp_any i y lo g1 g2 g3 sp T A n c ws cv _ (HE2.out.keep fun _ _ _ => rfl) hn hlt (by omega) hT0 hT1 hs0 hs1 HB.out HC.out)))
            go_wp2
            have HN : Hid (Wr wr lo (some ⟨b, off, none⟩) n (nl (ordOf r (i + 1) ++ List.range' (i + 1) (n - (i + 1)))) ∧ w.grownBy wr (some b)) := by
              obtain ⟨h1, h2, h3, h4, h5⟩ := hI.out
              rw [hQ.out] at h2 h4
              have h6 := ordOf_pw r i
              rw [← h2] at h6
              rw [rowOf_end r (ins_stop h6 hlt2 h3) h2] at h4
              exact ⟨h4, h5⟩
            go_roundw
            case rel => exact ⟨i + 1, by omega, by omega, by go_num, HN.out.1, gb_drewN HN.out.2 _⟩
            case measure => simp [intOf]; omega
    · obtain rfl : i = n := by omega
      go_wp2
      go_end0
      have h1 := hS.out.1
      rw [Nat.sub_self] at h1
      simp only [List.range'_zero, List.append_nil] at h1
      exact ⟨rfl, by rw [HO.out]; exact h1, hS.out.2⟩
end Go.Proofs.Ytjaecgobgpfbdaa
