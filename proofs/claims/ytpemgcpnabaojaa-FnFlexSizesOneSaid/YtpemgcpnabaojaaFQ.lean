/- The law of one flexible size: the walk. -/
import Derived.Test.YtpemgcpnabaojaaFL
import Derived.Test.YtpemgcpnabaojaaPI
import Derived.Deep.RegionHeld3
namespace Go.Proofs.Ytpemgcpnabaojaa
open Go.RowKit

theorem Rd.lit5 {w : World} {g : Nat} {x0 x1 x2 x3 x4 : Int} (h0 : w.cell? ⟨g, 0, none⟩ = some (.int .i64 x0)) (h1 : w.cell? ⟨g, 1, none⟩ = some (.int .i64 x1)) (h2 : w.cell? ⟨g, 2, none⟩ = some (.int .i64 x2)) (h3 : w.cell? ⟨g, 3, none⟩ = some (.int .i64 x3)) (h4 : w.cell? ⟨g, 4, none⟩ = some (.int .i64 x4)) :
    Rd w w.heap.size (some ⟨g, 0, none⟩) (5 * 1) [x0, x1, x2, x3, x4] := by
  refine ⟨rfl, fun _ => ⟨g, 0, rfl, lt_of_cell h0, fun i hi => ?_⟩⟩
  rw [Nat.zero_add]
  rcases i with _ | _ | _ | _ | _ | i
  · exact h0
  · exact h1
  · exact h2
  · exact h3
  · exact h4
  · omega
theorem Rd.lit1 {w : World} {g : Nat} {x : Int} (h0 : w.cell? ⟨g, 0, none⟩ = some (.int .i64 x)) : Rd w w.heap.size (some ⟨g, 0, none⟩) 1 [x] := by
  refine ⟨rfl, fun _ => ⟨g, 0, rfl, lt_of_cell h0, fun i hi => ?_⟩⟩
  obtain rfl : i = 0 := by omega
  exact h0
set_option maxHeartbeats 4000000 in
theorem walkFnFlexSizesOne (A : Option Addr) (n c : Nat) (zs : List Int) (w : World) (h : IsRow .u8 w A n c zs) :
    Calls Try.prog 6 #[.slice A n c] w fun e w' => e = .returned (.bool true) ∧ Below w.heap.size w w' := by
  have H := Lib.hid h
  have hn : (n : Int) ≤ 9223372036854775807 := by obtain ⟨h1, h2, _⟩ := bytes_of_row h; unfold maxLen at h2; omega
  clear h
  by_cases hl : (1048576 : Int) < n
  · go_enter Try.func6, Try.ntmps6
    go_wp2
    go_ret
    exact ⟨rfl, Below.refl _ _⟩
  go_enter Try.func6, Try.ntmps6
  go_wp2_with fail
  refine (DrawFlexSizes_any _ _ _ _ _ H.out).mono ?_
  rintro e w1 ⟨A1, m, c1, zs, sp, rfl, ⟨s0, s1⟩, hL, hb1⟩
  have hm : m ≤ 9 := hL.1
  have L := Lib.hid hL
  have B1 := Lib.hid hb1
  have RD1 := Lib.hid hL.2.2.2.2.rd
  clear hL hb1
  go_wp2_with fail
  refine (iFlexSizes_any A1 m c1 zs sp w1 RD1.out (by omega)).mono ?_
  rintro e w2 ⟨A3, q, c3, rfl, hq, hW, hb⟩
  have W2 := Lib.hid hW
  have B2 := Lib.hid hb
  have hqm : q ≤ m := by have h1 := hW.1; have h2 := fsL_len zs m sp; omega
  clear hW hb
  go_wp2_with fail
  refine (sFlexSizes_any A1 m c1 zs sp w2 ((RD1.out.below B2.out).more B2.out.size) (by omega)).mono ?_
  rintro e w3 ⟨A4, q', c4, rfl, hq', hW, hb⟩
  obtain rfl : q = q' := W2.out.1.symm.trans hW.1
  have W3 := Lib.hid hW
  have W23 := Lib.hid (W2.out.below hb)
  have B3 := Lib.hid hb
  clear hW hb hq'
  go_wp2_with fail
  refine (equalInts_any A3 A4 q c3 c4 (fsL zs m sp) _ _ w3 W23.out.rd W3.out.rd (by omega)).mono ?_
  rintro e w4 ⟨rfl, hb⟩
  have B4 := Lib.hid hb
  have W24 := Lib.hid (W23.out.below hb)
  clear hb
  have R4 := Lib.hid ((((((RD1.out.below B2.out).more B2.out.size).below B3.out).more B3.out.size).below B4.out).more B4.out.size)
  have BB := Lib.hid (((B1.out.trans (B2.out.mono B1.out.size)).trans (B3.out.mono (Nat.le_trans B1.out.size B2.out.size))).trans (B4.out.mono (Nat.le_trans (Nat.le_trans B1.out.size B2.out.size) B3.out.size)))
  have ZL := Lib.hid (Nat.le_trans (Nat.le_trans B2.out.size B3.out.size) B4.out.size)
  clear L B2 B3 B4 W3 W23
  by_cases hq0 : q = 0
  · subst hq0
    go_wp2_with fail
    refine (sFlexSizes_any A1 m c1 zs sp w4 R4.out (by omega)).mono ?_
    rintro e w5 ⟨A5, q', c5, rfl, hq', hW, hb⟩
    obtain rfl : 0 = q' := W2.out.1.symm.trans hW.1
    have W5 := Lib.hid hW
    have W25 := Lib.hid (W24.out.below hb)
    have B5 := Lib.hid hb
    clear hW hb hq'
    go_wp2_with fail
    refine (equalInts_any A3 A5 0 c3 c5 (fsL zs m sp) _ _ w5 W25.out.rd W5.out.rd (by omega)).mono ?_
    rintro e w6 ⟨rfl, hb⟩
    have B6 := Lib.hid hb
    clear hb
    go_wp2
    go_ret
    exact ⟨rfl, (BB.out.trans (B5.out.mono BB.out.size)).trans (B6.out.mono (Nat.le_trans BB.out.size B5.out.size))⟩
  have hV : fsV zs m sp = true := by
    by_cases hV : fsV zs m sp = true
    · exact hV
    · have h1 := W2.out.1
      unfold fsL at h1
      rw [if_neg hV] at h1
      exact absurd h1.symm hq0
  obtain ⟨⟨m1, m8⟩, ha, p0, p1⟩ := fsV_iff.1 hV
  have HA := Lib.hid ha
  have HE : Hid (fsL zs m sp = flL zs m sp) := by unfold fsL; rw [if_pos hV]; rfl
  obtain rfl : m = q := by have h1 := W2.out.1; rw [HE.out] at h1; unfold flL at h1; rw [mk_len] at h1; exact h1
  have W4 := Lib.hid W24.out
  rw [HE.out] at W4
  clear ha hV W2 W24 HE hqm
  have hqz : ((m : Int) == 0) = false := by simp; omega
  obtain ⟨b, off, rfl, _, hc⟩ := R4.out.cell (by omega)
  obtain ⟨c0, c1', c2, c3', c4⟩ := at5 (k := 0) hc (by omega)
  obtain ⟨v1, v2, v3, v4, _, _⟩ := HA.out.at_ (show 0 < m by omega)
  obtain ⟨y0, h0⟩ : ∃ x, Hid (bsF zs 0 = x) := ⟨_, Lib.hid rfl⟩
  obtain ⟨y1, h1⟩ : ∃ x, Hid (mnF zs 0 = x) := ⟨_, Lib.hid rfl⟩
  obtain ⟨y2, h2⟩ : ∃ x, Hid (mxF zs 0 = x) := ⟨_, Lib.hid rfl⟩
  obtain ⟨y3, h3⟩ : ∃ x, Hid (grF zs 0 = x) := ⟨_, Lib.hid rfl⟩
  obtain ⟨y4, h4⟩ : ∃ x, Hid (skF zs 0 = x) := ⟨_, Lib.hid rfl⟩
  have e0 : w4.cell? ⟨b, off, none⟩ = some (.int .i64 y0) := by rw [← h0.out]; exact c0
  have e1 : w4.cell? ⟨b, off + 1, none⟩ = some (.int .i64 y1) := by rw [← h1.out]; exact c1'
  have e2 : w4.cell? ⟨b, off + 2, none⟩ = some (.int .i64 y2) := by rw [← h2.out]; exact c2
  have e3 : w4.cell? ⟨b, off + 3, none⟩ = some (.int .i64 y3) := by rw [← h3.out]; exact c3'
  have e4 : w4.cell? ⟨b, off + 4, none⟩ = some (.int .i64 y4) := by rw [← h4.out]; exact c4
  rw [h0.out] at v2 v3
  rw [h1.out] at v1 v2
  rw [h2.out] at v3 v4
  have hok : okS [y0, y1, y2, 1, 1] 1 := okS_of fun i hi => by
    obtain rfl : i = 0 := by omega
    exact ⟨v1, v2, v3, v4, ⟨show (0 : Int) ≤ 1 by omega, show (1 : Int) ≤ 10 by omega⟩, show (0 : Int) ≤ 1 by omega, show (1 : Int) ≤ 10 by omega⟩
  have HEq : Hid (fsL [y0, y1, y2, 1, 1] 1 sp = [max y1 (min y2 sp)]) := (fsL_of (by omega) (by omega) hok p0 p1).trans (one_size hok sp)
  have hm0 : (0 : Int) < (m : Int) := by omega
  clear hc c0 c1' c2 c3' c4 hok
  go_wp2
  clear e0 e1 e2 e3 e4
  obtain ⟨r, hr⟩ : ∃ r, Hid (max y1 (min y2 sp) = r) := ⟨_, Lib.hid rfl⟩
  rw [hr.out] at HEq
  have HB4 := Lib.hid (Below.refl w4.heap.size w4)
  go_region_held3 (fun w' => w'.cell? ⟨w4.heap.size, 0, none⟩ = some (.int .i64 y0) ∧ w'.cell? ⟨w4.heap.size, 1, none⟩ = some (.int .i64 y1) ∧ w'.cell? ⟨w4.heap.size, 2, none⟩ = some (.int .i64 y2) ∧ w'.cell? ⟨w4.heap.size, 3, none⟩ = some (.int .i64 1) ∧ w'.cell? ⟨w4.heap.size, 4, none⟩ = some (.int .i64 1))
    (((try dsimp only); refine ⟨?_, ?_, ?_, ?_, ?_⟩ <;> ((try rw [hc6 _ _ (by first | (simp; done) | omega | (simp; omega))]); (first | (simp [go_sem]; done) | (rw [hc5 _ _ (by first | (simp; done) | omega | (simp; omega))]; simp [go_sem]; done) | (rw [World.cell?_alloc_lt _ _ _ (by first | (simp; done) | omega | (simp; omega)), hc5 _ _ (by first | (simp; done) | omega | (simp; omega))]; simp [go_sem]; done)))))
    (first
    | (go_at_call 21; refine (iFlexSizes_any _ 1 1 [y0, y1, y2, 1, 1] sp _ (Rd.lit5 (by simp [go_sem]) (by simp [go_sem]) (by simp [go_sem]) (by simp [go_sem]) (by simp [go_sem])) (by omega)).mono ?_; rintro e w5 ⟨A5, q5, c5, rfl, hq5, hW, hb⟩; rw [HEq.out] at hW; obtain rfl : 1 = q5 := hW.1; obtain ⟨hc5, hf5⟩ := bcell hb; have hz5 := hb.size; (try simp at hz5); have W5 := Lib.hid hW; have B5 := Lib.hid hb; clear hW hb hq5)
    | (go_at_call 22; refine (equalInts_any A5 _ 1 c5 1 [r] _ _ _ (by first | exact W5.out.rd | exact (W5.out.alloc _).rd) (Rd.lit1 (by rw [← hr.out]; first | (simp [go_sem]; done) | (rw [hc5 _ _ (by first | (simp; done) | (simp; omega))]; simp [go_sem]))) (by omega)).mono ?_; rintro e w6 ⟨rfl, hb6⟩; obtain ⟨hc6, hf6⟩ := bcell hb6; have B6 := Lib.hid hb6; clear hb6))
  all_goals
    have HX := Lib.hid ((show Below w4.heap.size w4 _ by first
      | exact (((Below.refl w4.heap.size w4).alloc (Nat.le_refl _) _).alloc (by first | (simp; done) | (simp; omega)) _).drew
      | exact ((((Below.refl w4.heap.size w4).alloc (Nat.le_refl _) _).alloc (by first | (simp; done) | (simp; omega)) _).drew.alloc (by first | (simp; done) | (simp; omega)) _)
      | exact (((((Below.refl w4.heap.size w4).alloc (Nat.le_refl _) _).alloc (by first | (simp; done) | (simp; omega)) _).drew.alloc (by first | (simp; done) | (simp; omega)) _).alloc (by first | (simp; done) | (simp; omega)) _)
      | exact ((((Below.refl w4.heap.size w4).alloc (Nat.le_refl _) _).drew).alloc (by first | (simp; done) | (simp; omega)) _)
      | exact ((((Below.refl w4.heap.size w4).alloc (Nat.le_refl _) _).drew).alloc (by first | (simp; done) | (simp; omega)) _).alloc (by first | (simp; done) | (simp; omega)) _).trans (B5.out.mono (by first | (simp; done) | (simp; omega))))
    have HY := Lib.hid (show Below w4.heap.size w4 w6 by first
      | exact HX.out.trans (B6.out.mono HX.out.size)
      | exact (HX.out.alloc HX.out.size _).trans (B6.out.mono (by have := HX.out.size; simp; omega)))
    clear B6 B5 HX hc5 hf5 hc6 hf6 W5
    go_wp2
    go_ret
    exact ⟨ret_bool (by simp), BB.out.trans (HY.out.mono BB.out.size)⟩
end Go.Proofs.Ytpemgcpnabaojaa
