/- The exact laws of two-result rectangle functions: the walks. -/
import Derived.Test.YthpohaijjlfdoaaE
import Derived.Deep.RegionHeld3
import Derived.Deep.DeepCutAuto
namespace Go.Proofs.Ythpohaijjlfdoaa
open Go.RowKit

def CutR3 (w : World) (S : World → Prop) (x y a b : Int) (o : Bool) (s t : Value) (wx : World) : Prop :=
  ∃ g : Nat, s = .pointer (some ⟨g, 0, none⟩) ∧ t = .bool o ∧ w.heap.size + 1 < g ∧ g < wx.heap.size ∧
    (wx.cell? ⟨g, 0, none⟩ = some (.int .i64 x) ∧ wx.cell? ⟨g, 1, none⟩ = some (.int .i64 y) ∧ wx.cell? ⟨g, 2, none⟩ = some (.int .i64 a) ∧ wx.cell? ⟨g, 3, none⟩ = some (.int .i64 b)) ∧ S wx ∧ Below w.heap.size w wx
set_option maxHeartbeats 4000000 in
theorem walkFnExactMeetRects (x y a b p q c d : Int) (w : World) (_ : (Lit.int .i64 x).wf = true) (_ : (Lit.int .i64 y).wf = true) (_ : (Lit.int .i64 a).wf = true) (_ : (Lit.int .i64 b).wf = true) (_ : (Lit.int .i64 p).wf = true) (_ : (Lit.int .i64 q).wf = true) (_ : (Lit.int .i64 c).wf = true) (_ : (Lit.int .i64 d).wf = true) :
    Calls Try.prog 11 #[.agg #[.int .i64 x, .int .i64 y, .int .i64 a, .int .i64 b], .agg #[.int .i64 p, .int .i64 q, .int .i64 c, .int .i64 d]] w fun e w' => e = .returned (.bool true) ∧ Below w.heap.size w w' := by
  go_enter Try.func11, Try.ntmps11
  go_wp2_with fail
  generalize hw0 : ((w.alloc (.cells #[.int .i64 x, .int .i64 y, .int .i64 a, .int .i64 b] 24)).alloc (.cells #[.int .i64 p, .int .i64 q, .int .i64 c, .int .i64 d] 24)) = w0
  have s0_0 : w0.cell? ⟨w.heap.size, 0, none⟩ = some (.int .i64 x) := by rw [← hw0]; simp [go_sem]
  have s0_1 : w0.cell? ⟨w.heap.size, 1, none⟩ = some (.int .i64 y) := by rw [← hw0]; simp [go_sem]
  have s0_2 : w0.cell? ⟨w.heap.size, 2, none⟩ = some (.int .i64 a) := by rw [← hw0]; simp [go_sem]
  have s0_3 : w0.cell? ⟨w.heap.size, 3, none⟩ = some (.int .i64 b) := by rw [← hw0]; simp [go_sem]
  have s1_0 : w0.cell? ⟨w.heap.size + 1, 0, none⟩ = some (.int .i64 p) := by rw [← hw0]; simp [go_sem]
  have s1_1 : w0.cell? ⟨w.heap.size + 1, 1, none⟩ = some (.int .i64 q) := by rw [← hw0]; simp [go_sem]
  have s1_2 : w0.cell? ⟨w.heap.size + 1, 2, none⟩ = some (.int .i64 c) := by rw [← hw0]; simp [go_sem]
  have s1_3 : w0.cell? ⟨w.heap.size + 1, 3, none⟩ = some (.int .i64 d) := by rw [← hw0]; simp [go_sem]
  have n1 : w.heap.size + 2 ≤ w0.heap.size := by rw [← hw0]; simp only [World.size_alloc]; omega
  have B0 : Below w.heap.size w w0 := by rw [← hw0]; exact (by repeat (first | (with_reducible exact Below.refl _ _) | (with_reducible refine Below.drew ?_) | (with_reducible refine below_drewN ?_ _) | ((with_reducible refine Below.setCell ?_ ?_ _); rotate_left; (focus (dsimp only; omega))) | ((with_reducible refine Below.alloc ?_ ?_ _); rotate_left; (focus ((try simp only [World.size_alloc]); (first | omega | ((try simp); (try omega); done))))) | ((refine Below.trans ?_ (Below.mono (by assumption) ?_)); rotate_left; (focus ((try simp only [World.size_alloc]); (first | omega | ((try simp); (try omega); done)))))))
  clear hw0
  go_upto_region 1 with fail
  go_cut [5, 6] (fun s t wx => CutR3 w (fun w' => w'.cell? ⟨w.heap.size, 0, none⟩ = some (.int .i64 x) ∧ w'.cell? ⟨w.heap.size, 1, none⟩ = some (.int .i64 y) ∧ w'.cell? ⟨w.heap.size, 2, none⟩ = some (.int .i64 a) ∧ w'.cell? ⟨w.heap.size, 3, none⟩ = some (.int .i64 b) ∧ w'.cell? ⟨w.heap.size + 1, 0, none⟩ = some (.int .i64 p) ∧ w'.cell? ⟨w.heap.size + 1, 1, none⟩ = some (.int .i64 q) ∧ w'.cell? ⟨w.heap.size + 1, 2, none⟩ = some (.int .i64 c) ∧ w'.cell? ⟨w.heap.size + 1, 3, none⟩ = some (.int .i64 d)) (sel (mtOk x y a b p q c d) (mx x p)) (sel (mtOk x y a b p q c d) (mx y q)) (sel (mtOk x y a b p q c d) (mn (x + a) (p + c) - mx x p)) (sel (mtOk x y a b p q c d) (mn (y + b) (q + d) - mx y q)) ((mtOk x y a b p q c d)) s t wx)
  case first =>
    go_region_held3 (fun w' => w'.cell? ⟨w.heap.size, 0, none⟩ = some (.int .i64 x) ∧ w'.cell? ⟨w.heap.size, 1, none⟩ = some (.int .i64 y) ∧ w'.cell? ⟨w.heap.size, 2, none⟩ = some (.int .i64 a) ∧ w'.cell? ⟨w.heap.size, 3, none⟩ = some (.int .i64 b) ∧ w'.cell? ⟨w.heap.size + 1, 0, none⟩ = some (.int .i64 p) ∧ w'.cell? ⟨w.heap.size + 1, 1, none⟩ = some (.int .i64 q) ∧ w'.cell? ⟨w.heap.size + 1, 2, none⟩ = some (.int .i64 c) ∧ w'.cell? ⟨w.heap.size + 1, 3, none⟩ = some (.int .i64 d)) (first
    | (go_split_ands; (refine ⟨?_, ?_, ?_, ?_, ?_, ?_, ?_, ?_⟩) <;> ((repeat ((with_reducible refine (keep_far _ _ _ _ _ ?_).trans ?_); (focus (first | (dsimp only; omega) | (simp; omega))))); (first
        | (with_reducible assumption)
        | ((with_reducible refine (keep_alloc _ _ _ _ ?_).trans ?_); (focus (first | omega | (simp; omega))); (first | (with_reducible assumption) | exact keep_back (by with_reducible assumption) (by first | omega | (simp; omega)) | (show w0.cell? _ = _; (with_reducible assumption))))
        | ((refine (hchb2 _ _ (by first | omega | (simp; omega))).trans ?_); (with_reducible assumption))
        | ((refine (hchb1 _ _ (by first | omega | (simp; omega))).trans ?_); (first | (with_reducible assumption) | assumption))
        | (show w0.cell? _ = _; (with_reducible assumption))
        | (go_keep; done)))))
      (first
        | (go_at_call 22; refine (toRect_any _ _ _ _ _).mono ?_; rintro e w1 ⟨rfl, hb1⟩; obtain ⟨hchb1, hfhb1⟩ := bcell hb1; have hzhb1 := hb1.size; (try simp at hzhb1); (try have z0hb1 : w.heap.size < w1.heap.size := (by omega)); (try have z1hb1 : w.heap.size + 1 < w1.heap.size := (by omega)); (try have z2hb1 : w.heap.size + 1 + 1 < w1.heap.size := (by omega)); (try have z3hb1 : w.heap.size + 1 + 1 + 1 < w1.heap.size := (by omega)); (try have z4hb1 : w.heap.size + 1 + 1 + 1 + 1 < w1.heap.size := (by omega)); (try have z5hb1 : w.heap.size + 1 + 1 + 1 + 1 + 1 < w1.heap.size := (by omega)); (try have y0hb1 : w0.heap.size < w1.heap.size := (by omega)); (try have hqhb1 := Nat.lt_of_succ_le hzhb1); skip)
        | (go_at_call 33; refine (sMeetRects_any _ _ _ _ _ _ _ _ _).mono ?_; rintro e w2 ⟨rfl, hb2⟩; obtain ⟨hchb2, hfhb2⟩ := bcell hb2; have hzhb2 := hb2.size; (try simp at hzhb2); (try have z0hb2 : w.heap.size < w2.heap.size := (by omega)); (try have z1hb2 : w.heap.size + 1 < w2.heap.size := (by omega)); (try have z2hb2 : w.heap.size + 1 + 1 < w2.heap.size := (by omega)); (try have z3hb2 : w.heap.size + 1 + 1 + 1 < w2.heap.size := (by omega)); (try have z4hb2 : w.heap.size + 1 + 1 + 1 + 1 < w2.heap.size := (by omega)); (try have z5hb2 : w.heap.size + 1 + 1 + 1 + 1 + 1 < w2.heap.size := (by omega)); (try have y0hb2 : w0.heap.size < w2.heap.size := (by omega)); (try have hqhb2 := Nat.lt_of_succ_le hzhb2); skip))
    all_goals go_wp2_with fail
    all_goals (go_meet; go_split_ands; refine ⟨_, rfl, rfl, ?_, ?_, ?_, ?_, ?_⟩)
    all_goals first
      | omega
      | ((refine ⟨?_, ?_, ?_, ?_⟩) <;> (simp [go_sem, *]; done))
      | (dsimp only; (refine ⟨?_, ?_, ?_, ?_, ?_, ?_, ?_, ?_⟩) <;> (with_reducible assumption))
      | (simp only [World.size_alloc]; omega)
      | (simp; done)
      | (simp; omega)
      | (simp [World.setCell]; omega)
      | exact (by repeat (first | (with_reducible exact Below.refl _ _) | (with_reducible refine Below.drew ?_) | (with_reducible refine below_drewN ?_ _) | ((with_reducible refine Below.setCell ?_ ?_ _); rotate_left; (focus (dsimp only; omega))) | ((with_reducible refine Below.alloc ?_ ?_ _); rotate_left; (focus ((try simp only [World.size_alloc]); (first | omega | ((try simp); (try omega); done))))) | ((refine Below.trans ?_ (Below.mono (by assumption) ?_)); rotate_left; (focus ((try simp only [World.size_alloc]); (first | omega | ((try simp); (try omega); done)))))))
  case rest =>
    obtain ⟨g, rfl, rfl, hg1, hg2, hgc, hS, B1⟩ := hcut
    obtain ⟨w0, rfl⟩ : ∃ w0 : World, w0 = wc := ⟨_, rfl⟩
    go_split_ands
    go_wp2_with fail
    go_region_held3 (fun w' => w'.cell? ⟨w.heap.size, 0, none⟩ = some (.int .i64 x) ∧ w'.cell? ⟨w.heap.size, 1, none⟩ = some (.int .i64 y) ∧ w'.cell? ⟨w.heap.size, 2, none⟩ = some (.int .i64 a) ∧ w'.cell? ⟨w.heap.size, 3, none⟩ = some (.int .i64 b) ∧ w'.cell? ⟨w.heap.size + 1, 0, none⟩ = some (.int .i64 p) ∧ w'.cell? ⟨w.heap.size + 1, 1, none⟩ = some (.int .i64 q) ∧ w'.cell? ⟨w.heap.size + 1, 2, none⟩ = some (.int .i64 c) ∧ w'.cell? ⟨w.heap.size + 1, 3, none⟩ = some (.int .i64 d) ∧ w'.cell? ⟨g, 0, none⟩ = some (.int .i64 (sel (mtOk x y a b p q c d) (mx x p))) ∧ w'.cell? ⟨g, 1, none⟩ = some (.int .i64 (sel (mtOk x y a b p q c d) (mx y q))) ∧ w'.cell? ⟨g, 2, none⟩ = some (.int .i64 (sel (mtOk x y a b p q c d) (mn (x + a) (p + c) - mx x p))) ∧ w'.cell? ⟨g, 3, none⟩ = some (.int .i64 (sel (mtOk x y a b p q c d) (mn (y + b) (q + d) - mx y q)))) (first
    | (go_split_ands; (refine ⟨?_, ?_, ?_, ?_, ?_, ?_, ?_, ?_, ?_, ?_, ?_, ?_⟩) <;> ((repeat ((with_reducible refine (keep_far _ _ _ _ _ ?_).trans ?_); (focus (first | (dsimp only; omega) | (simp; omega))))); (first
        | (with_reducible assumption)
        | ((with_reducible refine (keep_alloc _ _ _ _ ?_).trans ?_); (focus (first | omega | (simp; omega))); (first | (with_reducible assumption) | exact keep_back (by with_reducible assumption) (by first | omega | (simp; omega)) | (show w0.cell? _ = _; (with_reducible assumption))))
        | ((refine (hchb2 _ _ (by first | omega | (simp; omega))).trans ?_); (with_reducible assumption))
        | ((refine (hchb1 _ _ (by first | omega | (simp; omega))).trans ?_); (first | (with_reducible assumption) | assumption))
        | (show w0.cell? _ = _; (with_reducible assumption))
        | (go_keep; done)))))
      (first
        | (go_at_call 22; refine (toRect_any _ _ _ _ _).mono ?_; rintro e w1 ⟨rfl, hb1⟩; obtain ⟨hchb1, hfhb1⟩ := bcell hb1; have hzhb1 := hb1.size; (try simp at hzhb1); (try have z0hb1 : w.heap.size < w1.heap.size := (by omega)); (try have z1hb1 : w.heap.size + 1 < w1.heap.size := (by omega)); (try have z2hb1 : w.heap.size + 1 + 1 < w1.heap.size := (by omega)); (try have z3hb1 : w.heap.size + 1 + 1 + 1 < w1.heap.size := (by omega)); (try have z4hb1 : w.heap.size + 1 + 1 + 1 + 1 < w1.heap.size := (by omega)); (try have z5hb1 : w.heap.size + 1 + 1 + 1 + 1 + 1 < w1.heap.size := (by omega)); (try have y0hb1 : w0.heap.size < w1.heap.size := (by omega)); (try have hqhb1 := Nat.lt_of_succ_le hzhb1); skip)
        | (go_at_call 34; refine (iMeetRects_any _ _ _ _ _ _ _ _ _).mono ?_; rintro e w2 ⟨rfl, hb2⟩; obtain ⟨hchb2, hfhb2⟩ := bcell hb2; have hzhb2 := hb2.size; (try simp at hzhb2); (try have z0hb2 : w.heap.size < w2.heap.size := (by omega)); (try have z1hb2 : w.heap.size + 1 < w2.heap.size := (by omega)); (try have z2hb2 : w.heap.size + 1 + 1 < w2.heap.size := (by omega)); (try have z3hb2 : w.heap.size + 1 + 1 + 1 < w2.heap.size := (by omega)); (try have z4hb2 : w.heap.size + 1 + 1 + 1 + 1 < w2.heap.size := (by omega)); (try have z5hb2 : w.heap.size + 1 + 1 + 1 + 1 + 1 < w2.heap.size := (by omega)); (try have y0hb2 : w0.heap.size < w2.heap.size := (by omega)); (try have hqhb2 := Nat.lt_of_succ_le hzhb2); skip))
    all_goals go_split_ands
    all_goals go_wp2_with (first | (go_at_call 29; refine (eqRect_same _ _ _ _ _).mono ?_; rintro e w4 ⟨rfl, hb4⟩; obtain ⟨hchb4, hfhb4⟩ := bcell hb4; have hzhb4 := hb4.size; (try simp at hzhb4); (try have z0hb4 : w.heap.size < w4.heap.size := (by omega)); (try have z1hb4 : w.heap.size + 1 < w4.heap.size := (by omega)); (try have z2hb4 : w.heap.size + 1 + 1 < w4.heap.size := (by omega)); (try have z3hb4 : w.heap.size + 1 + 1 + 1 < w4.heap.size := (by omega)); (try have z4hb4 : w.heap.size + 1 + 1 + 1 + 1 < w4.heap.size := (by omega)); (try have z5hb4 : w.heap.size + 1 + 1 + 1 + 1 + 1 < w4.heap.size := (by omega)); (try have y0hb4 : w0.heap.size < w4.heap.size := (by omega)); (try have hqhb4 := Nat.lt_of_succ_le hzhb4); skip))
    all_goals go_ret
    all_goals exact ⟨rfl, (by repeat (first | (with_reducible exact Below.refl _ _) | (with_reducible refine Below.drew ?_) | (with_reducible refine below_drewN ?_ _) | ((with_reducible refine Below.setCell ?_ ?_ _); rotate_left; (focus (dsimp only; omega))) | ((with_reducible refine Below.alloc ?_ ?_ _); rotate_left; (focus ((try simp only [World.size_alloc]); (first | omega | ((try simp); (try omega); done))))) | ((refine Below.trans ?_ (Below.mono (by assumption) ?_)); rotate_left; (focus ((try simp only [World.size_alloc]); (first | omega | ((try simp); (try omega); done)))))))⟩
end Go.Proofs.Ythpohaijjlfdoaa
