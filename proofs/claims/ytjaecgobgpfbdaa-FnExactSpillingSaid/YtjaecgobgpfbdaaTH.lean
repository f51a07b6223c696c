/- Valid trees, by the program. -/
import Derived.Test.YtjaecgobgpfbdaaTG
import Derived.Deep.RegionHeld3
namespace Go.Proofs.Ytjaecgobgpfbdaa
open Go.RowKit

theorem on_no {zs : List Int} {n j : Nat} (hj : j < n) (h : onOk zs j = false) : vtB zs n = false := vtB_false fun hv => by
  rw [hv.on.2.1 j hj] at h; cases h
theorem kd_no {zs : List Int} {n j : Nat} (hj : j < n) (h : kdOk zs n j = false) : vtB zs n = false := vtB_false fun hv => by
  rw [hv.on.2.2 j hj] at h; cases h
def OStep (zs : List Int) (k : Nat) : Prop := parB zs 0 = -1 ∧ ∀ j, j < k → onOk zs j = true
theorem OStep.pk {zs : List Int} {k : Nat} (h : OStep zs k) : PK zs k := onOk_par h.1 h.2
theorem OStep.more {zs : List Int} {k : Nat} (h : OStep zs k) (h1 : onOk zs k = true) : OStep zs (k + 1) := ⟨h.1, fun j hj => by
  rcases Nat.lt_or_ge j k with h4 | h4
  · exact h.2 j h4
  · obtain rfl : j = k := by omega
    exact h1⟩
theorem onOk_zero (zs : List Int) : onOk zs 0 = (bxB zs 0 && true) := by
  unfold onOk
  rw [show pth zs 0 = [0] from rfl]
  simp
theorem onOk_pos {zs : List Int} {k : Nat} {x : Int} (h0 : 0 < k) (hx : parB zs k = x) : onOk zs k = ((bxB zs k && (inB x 0 ((k : Int) - 1) && (pth zs (k - 1)).contains x.toNat)) && decide ((pth zs k).length ≤ 6)) := by
  unfold onOk
  have e1 : decide (k = 0) = false := by simp; omega
  rw [e1, hx, Bool.false_or]
  congr 3
/- The world while a round's own copy of a box lies in block g. -/
structure Bx9 (w0 : World) (g : Nat) (x0 x1 x2 x3 x4 x5 x6 x7 x8 : Int) (W : World) : Prop where
  bl : Below w0.heap.size w0 W
  lt : g < W.heap.size
  c0 : W.cell? ⟨g, 0, none⟩ = some (.int .i64 x0)
  c1 : W.cell? ⟨g, 1, none⟩ = some (.int .i64 x1)
  c2 : W.cell? ⟨g, 2, none⟩ = some (.int .i64 x2)
  c3 : W.cell? ⟨g, 3, none⟩ = some (.int .i64 x3)
  c4 : W.cell? ⟨g, 4, none⟩ = some (.int .i64 x4)
  c5 : W.cell? ⟨g, 5, none⟩ = some (.int .i64 x5)
  c6 : W.cell? ⟨g, 6, none⟩ = some (.int .i64 x6)
  c7 : W.cell? ⟨g, 7, none⟩ = some (.int .i64 x7)
  c8 : W.cell? ⟨g, 8, none⟩ = some (.int .i64 x8)
theorem Bx9.below {w0 W W' : World} {g : Nat} {x0 x1 x2 x3 x4 x5 x6 x7 x8 : Int} (h : Bx9 w0 g x0 x1 x2 x3 x4 x5 x6 x7 x8 W) (hb : Below W.heap.size W W') : Bx9 w0 g x0 x1 x2 x3 x4 x5 x6 x7 x8 W' := by
  have hc := fun o => hb.cell (p := ⟨g, o, none⟩) h.lt
  exact ⟨h.bl.trans (hb.mono h.bl.size), Nat.lt_of_lt_of_le h.lt hb.size, (hc 0).trans h.c0, (hc 1).trans h.c1, (hc 2).trans h.c2, (hc 3).trans h.c3, (hc 4).trans h.c4, (hc 5).trans h.c5, (hc 6).trans h.c6, (hc 7).trans h.c7, (hc 8).trans h.c8⟩
theorem Bx9.cells {w0 W : World} {g : Nat} {x0 x1 x2 x3 x4 x5 x6 x7 x8 : Int} (h : Hid (Bx9 w0 g x0 x1 x2 x3 x4 x5 x6 x7 x8 W)) : W.cell? ⟨g, 0, none⟩ = some (.int .i64 x0) ∧ W.cell? ⟨g, 1, none⟩ = some (.int .i64 x1) ∧ W.cell? ⟨g, 2, none⟩ = some (.int .i64 x2) ∧ W.cell? ⟨g, 3, none⟩ = some (.int .i64 x3) ∧ W.cell? ⟨g, 4, none⟩ = some (.int .i64 x4) ∧ W.cell? ⟨g, 5, none⟩ = some (.int .i64 x5) ∧ W.cell? ⟨g, 6, none⟩ = some (.int .i64 x6) ∧ W.cell? ⟨g, 7, none⟩ = some (.int .i64 x7) ∧ W.cell? ⟨g, 8, none⟩ = some (.int .i64 x8) :=
  ⟨h.out.c0, h.out.c1, h.out.c2, h.out.c3, h.out.c4, h.out.c5, h.out.c6, h.out.c7, h.out.c8⟩
theorem Bx9.drew {w0 W : World} {g : Nat} {x0 x1 x2 x3 x4 x5 x6 x7 x8 : Int} (h : Bx9 w0 g x0 x1 x2 x3 x4 x5 x6 x7 x8 W) : Bx9 w0 g x0 x1 x2 x3 x4 x5 x6 x7 x8 W.drew := ⟨h.bl.drew, h.lt, h.c0, h.c1, h.c2, h.c3, h.c4, h.c5, h.c6, h.c7, h.c8⟩
theorem Bx9.made {w0 W : World} (x0 x1 x2 x3 x4 x5 x6 x7 x8 : Int) (e : TypeId) (hb : Below w0.heap.size w0 W) : Bx9 w0 W.heap.size x0 x1 x2 x3 x4 x5 x6 x7 x8 (W.alloc (.cells #[.int .i64 x0, .int .i64 x1, .int .i64 x2, .int .i64 x3, .int .i64 x4, .int .i64 x5, .int .i64 x6, .int .i64 x7, .int .i64 x8] e)) := by
  refine ⟨hb.alloc hb.size _, by simp, ?_, ?_, ?_, ?_, ?_, ?_, ?_, ?_, ?_⟩ <;> simp [go_sem]
set_option maxRecDepth 4000 in
set_option maxHeartbeats 8000000 in
theorem iValidTree_any (A : Option Addr) (n c : Nat) (zs : List Int) (w : World) (h : Rd w w.heap.size A (9 * n) zs) (hn : n ≤ 1500000) :
    Calls Try.prog 32 #[.slice A n c] w fun e w' => e = .returned (.bool (vtB zs n)) ∧ Below w.heap.size w w' := by
  have H := Lib.hid h
  clear h
  cases hr : inB (n : Int) 1 16
  · go_enter Try.func32, Try.ntmps32
    go_wp2_with (go_at_call 51; ((with_reducible refine (within_any _ _ _ _).mono ?_); rintro e w' ⟨rfl, rfl⟩; rw [hr]))
    go_ret
    exact ⟨ret_bool (vtB_false fun hv => by have h1 := hv.one; have h2 := hv.few; rw [inB_not] at hr; omega).symm, Below.refl _ _⟩
  · have hnn : 1 ≤ n ∧ n ≤ 16 := by rw [inB_iff] at hr; omega
    obtain ⟨n1, n16⟩ := hnn
    obtain ⟨b, off, rfl, hb, hc⟩ := H.out.cell (by omega)
    have HC : Hid (∀ m : World, Below w.heap.size w m → ∀ j, j < 9 * n → m.cell? ⟨b, off + j, none⟩ = some (.int .i64 (zs.getD j 0))) := Lib.hid fun m hm j hj => by rw [hm.cell (p := ⟨b, off + j, none⟩) hb]; exact hc j hj
    have hn0 : (0 : Int) < (n : Int) := by omega
    have c00 := hc 0 (by omega)
    rw [show off + 0 = off from rfl] at c00
    obtain ⟨z, hz⟩ : ∃ z, Hid (parB zs 0 = z) := ⟨_, Lib.hid rfl⟩
    rw [show zs.getD 0 0 = z from hz.out] at c00
    clear hc
    by_cases hz1 : z = -1
    · subst hz1
      go_enter Try.func32, Try.ntmps32
      go_wp2_with (go_at_call 51; ((with_reducible refine (within_any _ _ _ _).mono ?_); rintro e w' ⟨rfl, rfl⟩; rw [hr]))
      clear c00
      go_loopw [21] (fun i wr => ∃ k : Nat, k ≤ n ∧ i = .int .i64 k ∧ Hid (OStep zs k ∧ Below w.heap.size w wr)) (fun i _ => n - (intOf i).toNat)
      case atStart => exact ⟨0, Nat.zero_le _, rfl, Lib.hid ⟨⟨hz.out, fun j hj => absurd hj (by omega)⟩, Below.refl _ _⟩⟩
      case round =>
       obtain ⟨k, hk, rfl, hS⟩ := hrel
       by_cases hlt : k < n
       · have c0 := parCell (HC.out wr hS.out.2) hlt
         obtain ⟨cz, c1, c2, c3, c4, c5, c6, c7, c8⟩ := at9 (HC.out wr hS.out.2) hlt
         clear cz
         obtain ⟨x0, h0⟩ : ∃ x, Hid (parB zs k = x) := ⟨_, Lib.hid rfl⟩
         rw [h0.out] at c0
         obtain ⟨x1, h1⟩ : ∃ x, Hid (zs.getD (9 * k + 1) 0 = x) := ⟨_, Lib.hid rfl⟩
         rw [h1.out] at c1
         obtain ⟨x2, h2⟩ : ∃ x, Hid (zs.getD (9 * k + 2) 0 = x) := ⟨_, Lib.hid rfl⟩
         rw [h2.out] at c2
         obtain ⟨x3, h3⟩ : ∃ x, Hid (zs.getD (9 * k + 3) 0 = x) := ⟨_, Lib.hid rfl⟩
         rw [h3.out] at c3
         obtain ⟨x4, h4⟩ : ∃ x, Hid (zs.getD (9 * k + 4) 0 = x) := ⟨_, Lib.hid rfl⟩
         rw [h4.out] at c4
         obtain ⟨x5, h5⟩ : ∃ x, Hid (zs.getD (9 * k + 5) 0 = x) := ⟨_, Lib.hid rfl⟩
         rw [h5.out] at c5
         obtain ⟨x6, h6⟩ : ∃ x, Hid (zs.getD (9 * k + 6) 0 = x) := ⟨_, Lib.hid rfl⟩
         rw [h6.out] at c6
         obtain ⟨x7, h7⟩ : ∃ x, Hid (zs.getD (9 * k + 7) 0 = x) := ⟨_, Lib.hid rfl⟩
         rw [h7.out] at c7
         obtain ⟨x8, h8⟩ : ∃ x, Hid (zs.getD (9 * k + 8) 0 = x) := ⟨_, Lib.hid rfl⟩
         rw [h8.out] at c8
         have HX : Hid (bxB zs k = stB x1 x2 x3 x4 x5 x6 x7 x8) := Lib.hid (by unfold bxB kdB wdB htB pdB gpB gwB shB jsB; rw [h1.out, h2.out, h3.out, h4.out, h5.out, h6.out, h7.out, h8.out])
         have hkn : (k : Int) < (n : Int) := by omega
         have hk0 : (0 : Int) ≤ (k : Int) := by omega
         go_wp2
         have HE := Lib.hid (Bx9.made x0 x1 x2 x3 x4 x5 x6 x7 x8 54 hS.out.2)
         obtain ⟨g, hg⟩ : ∃ g, Hid (wr.heap.size = g) := ⟨_, Lib.hid rfl⟩
         rw [hg.out] at HE ⊢
         generalize wr.alloc (.cells #[.int .i64 x0, .int .i64 x1, .int .i64 x2, .int .i64 x3, .int .i64 x4, .int .i64 x5, .int .i64 x6, .int .i64 x7, .int .i64 x8] 54) = wa at HE ⊢
         clear c0 c1 c2 c3 c4 c5 c6 c7 c8
         have e0 : ∀ m : Kept (Bx9 w g x0 x1 x2 x3 x4 x5 x6 x7 x8), m.val.cell? ⟨g, 0, none⟩ = some (.int .i64 x0) := fun m => m.ok.c0
         have e1 : ∀ m : Kept (Bx9 w g x0 x1 x2 x3 x4 x5 x6 x7 x8), m.val.cell? ⟨g, 1, none⟩ = some (.int .i64 x1) := fun m => m.ok.c1
         have e2 : ∀ m : Kept (Bx9 w g x0 x1 x2 x3 x4 x5 x6 x7 x8), m.val.cell? ⟨g, 2, none⟩ = some (.int .i64 x2) := fun m => m.ok.c2
         have e3 : ∀ m : Kept (Bx9 w g x0 x1 x2 x3 x4 x5 x6 x7 x8), m.val.cell? ⟨g, 3, none⟩ = some (.int .i64 x3) := fun m => m.ok.c3
         have e4 : ∀ m : Kept (Bx9 w g x0 x1 x2 x3 x4 x5 x6 x7 x8), m.val.cell? ⟨g, 4, none⟩ = some (.int .i64 x4) := fun m => m.ok.c4
         have e5 : ∀ m : Kept (Bx9 w g x0 x1 x2 x3 x4 x5 x6 x7 x8), m.val.cell? ⟨g, 5, none⟩ = some (.int .i64 x5) := fun m => m.ok.c5
         have e6 : ∀ m : Kept (Bx9 w g x0 x1 x2 x3 x4 x5 x6 x7 x8), m.val.cell? ⟨g, 6, none⟩ = some (.int .i64 x6) := fun m => m.ok.c6
         have e7 : ∀ m : Kept (Bx9 w g x0 x1 x2 x3 x4 x5 x6 x7 x8), m.val.cell? ⟨g, 7, none⟩ = some (.int .i64 x7) := fun m => m.ok.c7
         have e8 : ∀ m : Kept (Bx9 w g x0 x1 x2 x3 x4 x5 x6 x7 x8), m.val.cell? ⟨g, 8, none⟩ = some (.int .i64 x8) := fun m => m.ok.c8
         have HK := Lib.hid (fun (m : Kept (Bx9 w g x0 x1 x2 x3 x4 x5 x6 x7 x8)) (W : World) (hb : Below m.val.heap.size m.val W) => show Bx9 w g x0 x1 x2 x3 x4 x5 x6 x7 x8 W from m.ok.below hb)
         have HS0 : Hid (Bx9 w g x0 x1 x2 x3 x4 x5 x6 x7 x8 wa.drew) := Lib.hid HE.out.drew
         cases hbx : stB x1 x2 x3 x4 x5 x6 x7 x8
         · have HST : Hid (∀ W, Calls Try.prog 59 #[.agg #[.int .i64 x0, .int .i64 x1, .int .i64 x2, .int .i64 x3, .int .i64 x4, .int .i64 x5, .int .i64 x6, .int .i64 x7, .int .i64 x8]] W fun e w' => e = .returned (.bool false) ∧ Below W.heap.size W w') := Lib.hid fun W => by rw [← hbx]; exact styled_any x0 x1 x2 x3 x4 x5 x6 x7 x8 W
           refine region_keep (S := Bx9 w g x0 x1 x2 x3 x4 x5 x6 x7 x8) (by kernel_rfl) (by kernel_rfl) HS0.out fun hne => ?_
           repeat (go_big_quiet_step ((go_at_call 59; with_reducible exact keep_call (HST.out _) (HK.out _))))
           refine wpQuiet_nil ?_
           intro w9 hw'
           obtain ⟨m9, hw''⟩ := hw'
           have hS9 := m9.ok.bl
           rw [← hw''] at hS9
           clear hw'' e0 e1 e2 e3 e4 e5 e6 e7 e8 HK
           have hS9 := Lib.hid hS9
           go_wp2
           go_ret
           exact ⟨ret_bool (on_no hlt (by unfold onOk; rw [HX.out, hbx]; rfl)).symm, hS9.out⟩
         · have HST : Hid (∀ m : Kept (Bx9 w g x0 x1 x2 x3 x4 x5 x6 x7 x8), Calls Try.prog 59 #[.agg #[.int .i64 x0, .int .i64 x1, .int .i64 x2, .int .i64 x3, .int .i64 x4, .int .i64 x5, .int .i64 x6, .int .i64 x7, .int .i64 x8]] m.val fun e w'' => e = .returned (.bool true) ∧ ∃ m : Kept (Bx9 w g x0 x1 x2 x3 x4 x5 x6 x7 x8), w'' = m.val) := Lib.hid fun m => by rw [← hbx]; exact keep_call (styled_any x0 x1 x2 x3 x4 x5 x6 x7 x8 _) (HK.out m)
           by_cases hkp : (0 : Int) < (k : Int)
           · have hkd : decide ((0 : Int) < (k : Int)) = true := by simpa using hkp
             have hkd' : decide (0 < k) = true := by simp; omega
             obtain ⟨q, hq⟩ : ∃ q : Nat, Hid (k = q + 1) := ⟨k - 1, Lib.hid (by omega)⟩
             have hhi : Hid ((k : Int) - 1 = (q : Int)) := Lib.hid (by have := hq.out; omega)
             have hwh : IntKind.i64.wrap ((k : Int) - 1) = (q : Int) := by rw [← hhi.out]; exact IntWalk.i64_in _ (by omega)
             cases hpo : inB x0 0 (q : Int)
             · have HWT : Hid (∀ m : Kept (Bx9 w g x0 x1 x2 x3 x4 x5 x6 x7 x8), Calls Try.prog 51 #[.int .i64 x0, .int .i64 0, .int .i64 (q : Int)] m.val fun e w'' => e = .returned (.bool false) ∧ ∃ m : Kept (Bx9 w g x0 x1 x2 x3 x4 x5 x6 x7 x8), w'' = m.val) := Lib.hid fun m => by rw [← hpo]; exact keep_call (within_any x0 0 (q : Int) _) (fun w' e => by subst e; exact m.ok)
               refine region_keep (S := Bx9 w g x0 x1 x2 x3 x4 x5 x6 x7 x8) (by kernel_rfl) (by kernel_rfl) HS0.out fun hne => ?_
               repeat (go_big_quiet_step (first | (go_at_call 59; with_reducible exact HST.out _) | (go_at_call 51; with_reducible exact HWT.out _)))
               refine wpQuiet_nil ?_
               intro w9 hw'
               obtain ⟨m9, hw''⟩ := hw'
               have hS9 := m9.ok.bl
               rw [← hw''] at hS9
               clear hw'' e0 e1 e2 e3 e4 e5 e6 e7 e8 HK HST HWT hwh
               have hS9 := Lib.hid hS9
               go_wp2
               go_ret
               exact ⟨ret_bool (on_no hlt (by rw [onOk_pos (by omega) h0.out, hhi.out, hpo]; simp)).symm, hS9.out⟩
             · have hx := inB_iff.1 hpo
               obtain ⟨p, hp⟩ : ∃ p : Nat, Hid (x0 = (p : Int)) := ⟨x0.toNat, Lib.hid (by omega)⟩
               obtain rfl := hp.out
               clear hp
               have HPQ : Hid (PK zs (q + 1)) := by rw [← hq.out]; exact Lib.hid hS.out.1.pk
               have HPK : Hid (PK zs (k + 1)) := Lib.hid fun i hi => by
                 rcases Nat.lt_or_ge i k with h4 | h4
                 · exact hS.out.1.pk i h4
                 · obtain rfl : i = k := by omega
                   exact ⟨fun e => absurd e (by omega), fun _ => by rw [h0.out, hhi.out]; exact hx⟩
               clear hx
               have hqn : q < n := by have := hq.out; omega
               clear e0 e1 e2 e3 e4 e5 e6 e7 e8 HK HST
               have hpl : (pth zs q).length ≤ 2000000 := by have := pth_len HPQ.out q (by omega); omega
               cases hcb : (pth zs q).contains p
               all_goals
                 have HCB := Lib.hid hcb
                 clear hcb
                 go_region_held3 (fun w' => w'.cell? ⟨g, 0, none⟩ = some (.int .i64 (p : Int)) ∧ w'.cell? ⟨g, 1, none⟩ = some (.int .i64 x1) ∧ w'.cell? ⟨g, 2, none⟩ = some (.int .i64 x2) ∧ w'.cell? ⟨g, 3, none⟩ = some (.int .i64 x3) ∧ w'.cell? ⟨g, 4, none⟩ = some (.int .i64 x4) ∧ w'.cell? ⟨g, 5, none⟩ = some (.int .i64 x5) ∧ w'.cell? ⟨g, 6, none⟩ = some (.int .i64 x6) ∧ w'.cell? ⟨g, 7, none⟩ = some (.int .i64 x7) ∧ w'.cell? ⟨g, 8, none⟩ = some (.int .i64 x8))
                   (first | exact Bx9.cells K2 | exact Bx9.cells K1 | exact Bx9.cells HS0)
                   (first
                   | (go_at_call 59; refine (styled_any (p : Int) x1 x2 x3 x4 x5 x6 x7 x8 _).mono ?_; rintro e w1 ⟨rfl, hb1⟩; rw [hbx]; have K1 := Lib.hid (HS0.out.below hb1); clear hb1)
                   | (go_at_call 51; ((with_reducible refine (within_any _ _ _ _).mono ?_); rintro e w' ⟨rfl, rfl⟩; rw [hpo]))
                   | (go_at_call 61; refine (path_any _ n c q zs w1 ((H.out.below K1.out.bl).more K1.out.bl.size) (by omega) hqn HPQ.out).mono ?_; rintro e w2 ⟨A2, q2, c2, rfl, _, hW2, hb2⟩; have W2 := Lib.hid hW2; have hq2 := Lib.hid (hW2.len.symm.trans (ki_len _)); have K2 := Lib.hid (K1.out.below hb2); clear hW2 hb2)
                   | (go_at_call 60; refine (contains_any A2 q2 c2 (ki (pth zs q)) (p : Int) _ _ W2.out.rd (by have := hq2.out; omega)).mono ?_; rintro e w' ⟨rfl, rfl⟩; rw [show hasI (ki (pth zs q)) q2 (p : Int) = (pth zs q).contains p by rw [hq2.out, hasI_ki], HCB.out]))
               · have B2 := Lib.hid K2.out.bl
                 clear K2 K1 W2 hq2 HS0
                 go_wp2
                 go_ret
                 exact ⟨ret_bool (on_no hlt (by rw [onOk_pos (by omega) h0.out, Int.toNat_natCast, show k - 1 = q by have := hq.out; omega, HCB.out]; simp)).symm, B2.out⟩
               · have B2 := Lib.hid K2.out.bl
                 clear K2 K1 W2 hq2 HS0
                 obtain ⟨D, hD⟩ : ∃ D, Hid ((pth zs k).length = D) := ⟨_, Lib.hid rfl⟩
                 have HO : Hid (onOk zs k = decide (D ≤ 6)) := Lib.hid (by
                   rw [onOk_pos (by omega) h0.out, Int.toNat_natCast, show k - 1 = q by have := hq.out; omega, HCB.out, HX.out, hbx, hhi.out, hpo, hD.out]
                   rfl)
                 by_cases hD6 : (6 : Int) < (D : Int)
                 · go_wp2_with (go_at_call 61; refine (path_any _ n c k zs w2 ((H.out.below B2.out).more B2.out.size) (by omega) hlt HPK.out).mono ?_; rintro e w10 ⟨A10, q10, c10, rfl, _, hW10, hb10⟩; obtain rfl : q10 = D := hW10.len.symm.trans ((ki_len _).trans hD.out); have B10 := Lib.hid (B2.out.trans (hb10.mono B2.out.size)); clear hW10 hb10)
                   go_ret
                   exact ⟨ret_bool (on_no hlt (by rw [HO.out]; simp; omega)).symm, B10.out⟩
                 · go_wp2_with (go_at_call 61; refine (path_any _ n c k zs w2 ((H.out.below B2.out).more B2.out.size) (by omega) hlt HPK.out).mono ?_; rintro e w10 ⟨A10, q10, c10, rfl, _, hW10, hb10⟩; obtain rfl : q10 = D := hW10.len.symm.trans ((ki_len _).trans hD.out); have B10 := Lib.hid (B2.out.trans (hb10.mono B2.out.size)); clear hW10 hb10)
                   go_roundw
                   case rel => exact ⟨k + 1, by omega, by go_num, Lib.hid ⟨hS.out.1.more (by rw [HO.out]; simp; omega), B10.out⟩⟩
                   case measure => simp [intOf]; omega
           · have HK0 : Hid (k = 0) := Lib.hid (by omega)
             have hkd : decide ((0 : Int) < (k : Int)) = false := by simpa using hkp
             have hkd' : decide (0 < k) = false := by simp; omega
             have HPK : Hid (PK zs (k + 1)) := Lib.hid fun i hi => by
               obtain rfl : i = 0 := by have := HK0.out; omega
               exact ⟨fun _ => hz.out, fun h => absurd h (by omega)⟩
             have hp1 : (pth zs k).length = 1 := by rw [HK0.out]; rfl
             refine region_keep (S := Bx9 w g x0 x1 x2 x3 x4 x5 x6 x7 x8) (by kernel_rfl) (by kernel_rfl) HS0.out fun hne => ?_
             repeat (go_big_quiet_step ((go_at_call 59; with_reducible exact HST.out _)))
             refine wpQuiet_nil ?_
             intro w9 hw'
             obtain ⟨m9, hw''⟩ := hw'
             have hS9 := m9.ok.bl
             rw [← hw''] at hS9
             clear hw'' e0 e1 e2 e3 e4 e5 e6 e7 e8 HK HST
             have hS9 := Lib.hid hS9
             have HP1 := Lib.hid hp1
             clear hp1
             go_wp2_with (go_at_call 61; refine (path_any _ n c k zs w9 ((H.out.below hS9.out).more hS9.out.size) (by omega) hlt HPK.out).mono ?_; rintro e w10 ⟨A10, q10, c10, rfl, _, hW10, hb10⟩; obtain rfl : q10 = 1 := hW10.len.symm.trans ((ki_len _).trans HP1.out); have B10 := Lib.hid (hS9.out.trans (hb10.mono hS9.out.size)); clear hW10 hb10)
             go_roundw
             case rel => exact ⟨k + 1, by omega, by go_num, Lib.hid ⟨hS.out.1.more (by rw [HK0.out, onOk_zero, ← HK0.out, HX.out, hbx]; rfl), B10.out⟩⟩
             case measure => simp [intOf]; omega
       · obtain rfl : n = k := by omega
         have HO := Lib.hid hS.out.1
         have HB := Lib.hid hS.out.2
         clear hS
         go_wp2
         go_loopw [58] (fun i wr => ∃ k : Nat, k ≤ n ∧ i = .int .i64 k ∧ Hid ((∀ j, j < k → kdOk zs n j = true) ∧ Below w.heap.size w wr)) (fun i _ => n - (intOf i).toNat)
         case atStart => exact ⟨0, Nat.zero_le _, rfl, Lib.hid ⟨fun j hj => absurd hj (by omega), HB.out⟩⟩
         case round =>
          obtain ⟨k, hk, rfl, hS⟩ := hrel
          by_cases hlt : k < n
          · obtain ⟨cz, c1, c2, c3, c4, c5, c6, c7, c8⟩ := at9 (HC.out _ hS.out.2) hlt
            obtain ⟨x0, h0⟩ : ∃ x, Hid (zs.getD (9 * k) 0 = x) := ⟨_, Lib.hid rfl⟩
            rw [h0.out] at cz
            obtain ⟨x1, h1⟩ : ∃ x, Hid (zs.getD (9 * k + 1) 0 = x) := ⟨_, Lib.hid rfl⟩
            rw [h1.out] at c1
            obtain ⟨x2, h2⟩ : ∃ x, Hid (zs.getD (9 * k + 2) 0 = x) := ⟨_, Lib.hid rfl⟩
            rw [h2.out] at c2
            obtain ⟨x3, h3⟩ : ∃ x, Hid (zs.getD (9 * k + 3) 0 = x) := ⟨_, Lib.hid rfl⟩
            rw [h3.out] at c3
            obtain ⟨x4, h4⟩ : ∃ x, Hid (zs.getD (9 * k + 4) 0 = x) := ⟨_, Lib.hid rfl⟩
            rw [h4.out] at c4
            obtain ⟨x5, h5⟩ : ∃ x, Hid (zs.getD (9 * k + 5) 0 = x) := ⟨_, Lib.hid rfl⟩
            rw [h5.out] at c5
            obtain ⟨x6, h6⟩ : ∃ x, Hid (zs.getD (9 * k + 6) 0 = x) := ⟨_, Lib.hid rfl⟩
            rw [h6.out] at c6
            obtain ⟨x7, h7⟩ : ∃ x, Hid (zs.getD (9 * k + 7) 0 = x) := ⟨_, Lib.hid rfl⟩
            rw [h7.out] at c7
            obtain ⟨x8, h8⟩ : ∃ x, Hid (zs.getD (9 * k + 8) 0 = x) := ⟨_, Lib.hid rfl⟩
            rw [h8.out] at c8
            obtain ⟨L, hL⟩ : ∃ L, Hid ((kdsL zs n (k : Int)).length = L) := ⟨_, Lib.hid rfl⟩
            have HV : Hid (kdOk zs n k = (decide (L ≤ 8) && (!(x1 == 0) || decide (L = 0)))) := Lib.hid (by unfold kdOk kdB; rw [hL.out, h1.out])
            have hkn : (k : Int) < (n : Int) := by omega
            have hk0 : (0 : Int) ≤ (k : Int) := by omega
            go_wp2_with fail
            have HE := Lib.hid (Bx9.made x0 x1 x2 x3 x4 x5 x6 x7 x8 54 hS.out.2)
            obtain ⟨g, hg⟩ : ∃ g, Hid (wr.heap.size = g) := ⟨_, Lib.hid rfl⟩
            rw [hg.out] at HE ⊢
            generalize wr.alloc (.cells #[.int .i64 x0, .int .i64 x1, .int .i64 x2, .int .i64 x3, .int .i64 x4, .int .i64 x5, .int .i64 x6, .int .i64 x7, .int .i64 x8] 54) = wa at HE ⊢
            clear cz c1 c2 c3 c4 c5 c6 c7 c8
            refine (ikids_any _ n c k zs wa ((H.out.below HE.out.bl).more HE.out.bl.size) (by omega)).mono ?_
            rintro e w2 ⟨A2, q2, c2, rfl, _, hW2, hb2⟩
            obtain rfl : q2 = L := hW2.len.symm.trans ((ki_len _).trans hL.out)
            have K2 := Lib.hid (HE.out.below hb2)
            have e1 := K2.out.c1
            clear hW2 hb2
            by_cases hL8 : (8 : Int) < (q2 : Int)
            · go_wp2
              go_ret
              exact ⟨ret_bool (kd_no hlt (by rw [HV.out]; simp; omega)).symm, K2.out.bl⟩
            · by_cases hx0 : x1 = 0
              · subst hx0
                by_cases hL0 : (0 : Int) < (q2 : Int)
                · go_wp2
                  go_ret
                  exact ⟨ret_bool (kd_no hlt (by rw [HV.out]; simp; omega)).symm, K2.out.bl⟩
                · go_wp2
                  go_roundw
                  case rel => exact ⟨k + 1, by omega, by go_num, Lib.hid ⟨fun j hj => by
                    rcases Nat.lt_or_ge j k with h4 | h4
                    · exact hS.out.1 j h4
                    · obtain rfl : j = k := by omega
                      rw [HV.out]; simp; omega, K2.out.bl⟩⟩
                  case measure => simp [intOf]; omega
              · go_wp2
                go_roundw
                case rel => exact ⟨k + 1, by omega, by go_num, Lib.hid ⟨fun j hj => by
                  rcases Nat.lt_or_ge j k with h4 | h4
                  · exact hS.out.1 j h4
                  · obtain rfl : j = k := by omega
                    rw [HV.out]; simp [hx0]; omega, K2.out.bl⟩⟩
                case measure => simp [intOf]; omega
          · obtain rfl : n = k := by omega
            go_wp2
            go_ret
            exact ⟨ret_bool (vtB_iff.2 (VT.of n1 n16 HO.out.1 HO.out.2 hS.out.1)).symm, hS.out.2⟩
    · go_enter Try.func32, Try.ntmps32
      go_wp2_with (go_at_call 51; ((with_reducible refine (within_any _ _ _ _).mono ?_); rintro e w' ⟨rfl, rfl⟩; rw [hr]))
      go_ret
      exact ⟨ret_bool (vtB_false fun hv => by have h1 := (hv.par 0 hv.one).1 rfl; exact hz1 (hz.out.symm.trans h1)).symm, Below.refl _ _⟩
end Go.Proofs.Ytjaecgobgpfbdaa
