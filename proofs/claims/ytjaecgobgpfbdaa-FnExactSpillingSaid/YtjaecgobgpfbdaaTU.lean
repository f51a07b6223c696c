/- A box of another style: by the program and by the reference. -/
import Derived.Test.YtjaecgobgpfbdaaTI
import Derived.Test.YtjaecgobgpfbdaaGR2
namespace Go.Proofs.Ytjaecgobgpfbdaa
open Go.RowKit

/- The tree in which box a has other fields. -/
def ysB (zs : List Int) (n a : Nat) (x0 x1 x2 x3 x4 x5 x6 x7 x8 : Int) : List Int := mk (9 * n) fun i => if i = a * 9 + 8 then x8 else if i = a * 9 + 7 then x7 else if i = a * 9 + 6 then x6 else if i = a * 9 + 5 then x5 else if i = a * 9 + 4 then x4 else if i = a * 9 + 3 then x3 else if i = a * 9 + 2 then x2 else if i = a * 9 + 1 then x1 else if i = a * 9 then x0 else zs.getD i 0
def stO (zs : List Int) (n : Nat) (a : Int) (x1 x2 x3 x4 x5 x6 x7 x8 : Int) : Bool := inT zs n a && vtB (ysB zs n a.toNat (parB zs a.toNat) x1 x2 x3 x4 x5 x6 x7 x8) n
def stL (zs : List Int) (n : Nat) (a : Int) (x1 x2 x3 x4 x5 x6 x7 x8 : Int) : List Int := if stO zs n a x1 x2 x3 x4 x5 x6 x7 x8 then ysB zs n a.toNat (parB zs a.toNat) x1 x2 x3 x4 x5 x6 x7 x8 else []
/- A slice of structs of K integers of the call's own comes back. -/
def GotK (K : Nat) (w : World) (zs : List Int) (e : Ending) (w' : World) : Prop := ∃ A m c, e = .returned (.slice A m c) ∧ m ≤ c ∧ Wr w' w.heap.size A (K * m) zs ∧ Below w.heap.size w w'
/- .. with a word. -/
def GotKB (K : Nat) (w : World) (zs : List Int) (r : Bool) (e : Ending) (w' : World) : Prop := ∃ A m c, e = .returned (.tuple #[.slice A m c, .bool r]) ∧ m ≤ c ∧ Wr w' w.heap.size A (K * m) zs ∧ Below w.heap.size w w'
theorem GotKB.nil {K : Nat} {w w' : World} (hb : Below w.heap.size w w') : GotKB K w [] false (.returned (.tuple #[.slice none 0 0, .bool false])) w' := ⟨none, 0, 0, rfl, Nat.le_refl _, Wr.nil _ _ _, hb⟩
theorem Wr.toMk {w : World} {lo n : Nat} {A : Option Addr} {zs : List Int} (h : Wr w lo A n zs) : Wr w lo A n (mk n fun i => zs.getD i 0) := by
  have e := eq_mk zs
  rw [h.1] at e
  rw [← e]; exact h
set_option maxRecDepth 100000 in
theorem cloneBox_any (b off n c : Nat) (zs : List Int) (B : Nat) (w : World) (h : Rd w B (some ⟨b, off, none⟩) (9 * n) zs) (hn : n ≤ 1500000) (h0 : 0 < n) :
    Calls Try.prog 70 #[.slice (some ⟨b, off, none⟩) n c] w (GotK 9 w zs) := by
  have H := Lib.hid h
  clear h
  have hbs : b < w.heap.size := by
    obtain ⟨b', o', e, _, hc⟩ := H.out.2 (by omega)
    injection e with e
    injection e with e1 e2
    subst e1 e2
    exact lt_of_cell (hc 0 (by omega))
  go_enter Try.func70, Try.ntmps70
  have HR : Hid (Rd w w.heap.size (some ⟨b, off, none⟩) (9 * n) zs) := by
    refine Lib.hid ⟨H.out.1, fun hp => ?_⟩
    obtain ⟨b', o', e, _, hc⟩ := H.out.2 hp
    injection e with e
    injection e with e1 e2
    subst e1 e2
    exact ⟨b, off, rfl, hbs, hc⟩
  have hnil := fun W : World => Lib.run_eql_slice_nil (P := Try.prog) W 28 54 (some ⟨b, off, none⟩) n c 0 0 Try.underlying28
  simp only [Option.isNone_some] at hnil
  go_wp2_with (at_builtin; refine wpList_allBox _ rfl _ _ rfl w.heap.size _ _ _ rfl (Rk.empty w 9 _ w.heap.size (Nat.le_refl _)) w.heap.size b off n c zs rfl (HR.out.alloc (Nat.le_refl _) _) (by omega) (by omega) ?_; intro v' w1 hown hg; simp only [Nat.zero_add, List.nil_append] at hown; have HO := Lib.hid hown; have HG := Lib.hid hg; clear hown hg)
  obtain ⟨A2, c2, rfl, g1, g2, _, hW⟩ := HO.out.out
  go_ret
  exact ⟨A2, n, c2, rfl, g1, hW, ((Below.refl w.heap.size w).alloc (Nat.le_refl _) _).grown HG.out (by simp) (fun r e => (Rk.empty w 9 54 w.heap.size (Nat.le_refl _)).row r e)⟩
theorem clipBox_any (A : Option Addr) (n c : Nat) (w : World) (hc : n ≤ c) :
    Calls Try.prog 83 #[.slice A n c] w fun e w' => e = .returned (.slice A n n) ∧ w = w' := by
  go_enter Try.func83, Try.ntmps83
  have h0 : (0 : Int) ≤ (n : Int) := by omega
  have h1 : (n : Int) ≤ (c : Int) := by omega
  go_wp2
  go_ret
  exact ⟨rfl, rfl⟩
/- What 'made' gives back of a slice: the slice itself, cut, if it is a valid tree. -/
def Made (v : Bool) (A : Option Addr) (n : Nat) (w : World) (e : Ending) (w' : World) : Prop := e = .returned (.tuple #[if v then .slice A n n else .slice none 0 0, .bool v]) ∧ Below w.heap.size w w'
theorem made_any (A : Option Addr) (n c : Nat) (zs : List Int) (w : World) (h : Rd w w.heap.size A (9 * n) zs) (hn : n ≤ 1500000) (hc : n ≤ c) :
    Calls Try.prog 71 #[.slice A n c] w (Made (vtB zs n) A n w) := by
  have H := Lib.hid h
  clear h
  cases hv : vtB zs n
  · go_enter Try.func71, Try.ntmps71
    go_wp2_with (go_at_call 32; refine (iValidTree_any A n c zs w H.out hn).mono ?_; rintro e w1 ⟨rfl, hb⟩; rw [hv]; have B1 := Lib.hid hb; clear hb)
    go_ret2
    exact ⟨rfl, B1.out⟩
  · go_enter Try.func71, Try.ntmps71
    go_wp2_with fail
    refine (iValidTree_any A n c zs w H.out hn).mono ?_
    rintro e w1 ⟨rfl, hb⟩
    rw [hv]
    have B1 := Lib.hid hb
    clear hb
    go_wp2_with fail
    refine (clipBox_any A n c w1 hc).mono ?_
    rintro e w2 ⟨rfl, rfl⟩
    go_wp2
    go_ret2
    exact ⟨rfl, B1.out⟩
theorem stO_not {zs : List Int} {n : Nat} {a x1 x2 x3 x4 x5 x6 x7 x8 : Int} (h : inT zs n a = false) : stO zs n a x1 x2 x3 x4 x5 x6 x7 x8 = false ∧ stL zs n a x1 x2 x3 x4 x5 x6 x7 x8 = [] := by
  unfold stL stO
  rw [h]
  exact ⟨rfl, rfl⟩
theorem stO_at {zs : List Int} {n k : Nat} {x1 x2 x3 x4 x5 x6 x7 x8 p : Int} (h : inT zs n (k : Int) = true) (hp : parB zs k = p) : stO zs n k x1 x2 x3 x4 x5 x6 x7 x8 = vtB (ysB zs n k p x1 x2 x3 x4 x5 x6 x7 x8) n ∧ stL zs n k x1 x2 x3 x4 x5 x6 x7 x8 = if vtB (ysB zs n k p x1 x2 x3 x4 x5 x6 x7 x8) n then ysB zs n k p x1 x2 x3 x4 x5 x6 x7 x8 else [] := by
  unfold stL stO
  rw [h, Int.toNat_natCast, hp, Bool.true_and]
  exact ⟨rfl, rfl⟩
theorem Bx9.setPar {w0 W : World} {g : Nat} {x0 x1 x2 x3 x4 x5 x6 x7 x8 : Int} (h : Bx9 w0 g x0 x1 x2 x3 x4 x5 x6 x7 x8 W) (hg : w0.heap.size ≤ g) (p : Int) : Bx9 w0 g p x1 x2 x3 x4 x5 x6 x7 x8 (W.setCell ⟨g, 0, none⟩ (.int .i64 p)) := by
  have h0 := h.c0
  have h1 := h.c1
  have h2 := h.c2
  have h3 := h.c3
  have h4 := h.c4
  have h5 := h.c5
  have h6 := h.c6
  have h7 := h.c7
  have h8 := h.c8
  refine ⟨h.bl.setCell hg _, by simpa [World.setCell] using h.lt, ?_, ?_, ?_, ?_, ?_, ?_, ?_, ?_, ?_⟩ <;> simp [go_sem, *]
theorem ysB_mk (zs : List Int) (n k : Nat) (p x1 x2 x3 x4 x5 x6 x7 x8 : Int) {w : World} {lo b off : Nat} (h : Wr w lo (some ⟨b, off, none⟩) (9 * n) zs) (hk : k < n) :
    Wr (((((((((w.setCell ⟨b, off + k * 9, none⟩ (.int .i64 p)).setCell ⟨b, off + k * 9 + 1, none⟩ (.int .i64 x1)).setCell ⟨b, off + k * 9 + 2, none⟩ (.int .i64 x2)).setCell ⟨b, off + k * 9 + 3, none⟩ (.int .i64 x3)).setCell ⟨b, off + k * 9 + 4, none⟩ (.int .i64 x4)).setCell ⟨b, off + k * 9 + 5, none⟩ (.int .i64 x5)).setCell ⟨b, off + k * 9 + 6, none⟩ (.int .i64 x6)).setCell ⟨b, off + k * 9 + 7, none⟩ (.int .i64 x7)).setCell ⟨b, off + k * 9 + 8, none⟩ (.int .i64 x8)) lo (some ⟨b, off, none⟩) (9 * n) (ysB zs n k p x1 x2 x3 x4 x5 x6 x7 x8) := h.toMk.set9 hk p x1 x2 x3 x4 x5 x6 x7 x8
theorem bl_set9 {w0 w : World} {B b off k : Nat} (h : Below B w0 w) (hb : B ≤ b) (y0 y1 y2 y3 y4 y5 y6 y7 y8 : Value) : Below B w0 (((((((((w.setCell ⟨b, off + k * 9, none⟩ y0).setCell ⟨b, off + k * 9 + 1, none⟩ y1).setCell ⟨b, off + k * 9 + 2, none⟩ y2).setCell ⟨b, off + k * 9 + 3, none⟩ y3).setCell ⟨b, off + k * 9 + 4, none⟩ y4).setCell ⟨b, off + k * 9 + 5, none⟩ y5).setCell ⟨b, off + k * 9 + 6, none⟩ y6).setCell ⟨b, off + k * 9 + 7, none⟩ y7).setCell ⟨b, off + k * 9 + 8, none⟩ y8) :=
  ((((((((h.setCell hb _).setCell hb _).setCell hb _).setCell hb _).setCell hb _).setCell hb _).setCell hb _).setCell hb _).setCell hb _
set_option maxRecDepth 100000 in
set_option maxHeartbeats 4000000 in
theorem iStyleBox_any (A : Option Addr) (n c : Nat) (zs : List Int) (a x0 x1 x2 x3 x4 x5 x6 x7 x8 : Int) (w : World) (h : Rd w w.heap.size A (9 * n) zs) (hn : n ≤ 1500000) :
    Calls Try.prog 47 #[.slice A n c, .int .i64 a, .agg #[.int .i64 x0, .int .i64 x1, .int .i64 x2, .int .i64 x3, .int .i64 x4, .int .i64 x5, .int .i64 x6, .int .i64 x7, .int .i64 x8]] w (GotKB 9 w (stL zs n a x1 x2 x3 x4 x5 x6 x7 x8) (stO zs n a x1 x2 x3 x4 x5 x6 x7 x8)) := by
  have H := Lib.hid h
  clear h
  cases hv : inT zs n a
  · have HN := Lib.hid (stO_not (x1 := x1) (x2 := x2) (x3 := x3) (x4 := x4) (x5 := x5) (x6 := x6) (x7 := x7) (x8 := x8) hv)
    go_enter Try.func47, Try.ntmps47
    go_wp2_with (go_at_call 64; refine (boxIn_any A n c zs a _ ((H.out.alloc (Nat.le_refl _) _).more (by simp)) hn).mono ?_; rintro e w1 ⟨rfl, hb⟩; rw [hv]; have B1 := Lib.hid hb; clear hb)
    go_ret2
    rw [HN.out.1, HN.out.2]
    exact GotKB.nil (((Below.refl _ _).alloc (Nat.le_refl _) _).trans (B1.out.mono (by simp)))
  · obtain ⟨k, rfl, hk⟩ := inT_at hv
    obtain ⟨b, off, rfl, hb, hc⟩ := H.out.cell (by omega)
    have c0 := parCell hc hk
    clear hc
    obtain ⟨p, hp⟩ : ∃ p, Hid (parB zs k = p) := ⟨_, Lib.hid rfl⟩
    rw [hp.out] at c0
    have HN := Lib.hid (stO_at (x1 := x1) (x2 := x2) (x3 := x3) (x4 := x4) (x5 := x5) (x6 := x6) (x7 := x7) (x8 := x8) hv hp.out)
    have hkn : (k : Int) < (n : Int) := by omega
    have hk0 : (0 : Int) ≤ (k : Int) := by omega
    have C0 := Lib.hid c0
    clear c0
    go_enter Try.func47, Try.ntmps47
    go_wp2_with fail
    refine (boxIn_any _ n c zs k _ ((H.out.alloc (Nat.le_refl _) _).more (by simp)) hn).mono ?_
    rintro e w1 ⟨rfl, hb1⟩
    rw [hv]
    have E1 := Lib.hid ((Bx9.made x0 x1 x2 x3 x4 x5 x6 x7 x8 _ (Below.refl w.heap.size w)).below hb1)
    have F1 : Hid (∀ j, j < 9 → w1.frozen? ⟨w.heap.size, j, none⟩ = false) := Lib.hid fun j _ => by
      rw [hb1.frozen (p := ⟨w.heap.size, j, none⟩) (by simp)]; simp [go_sem]
    have c0 : w1.cell? ⟨b, off + k * 9, none⟩ = some (.int .i64 p) := (E1.out.bl.cell (p := ⟨b, off + k * 9, none⟩) hb).trans C0.out
    clear hb1 hv
    have e0 := E1.out.c0
    have f0 := F1.out 0 (by omega)
    have hsz := E1.out.lt
    go_wp2_with fail
    have E2 := Lib.hid (E1.out.setPar (Nat.le_refl _) p)
    generalize w1.setCell ⟨w.heap.size, 0, none⟩ (.int .i64 p) = wa at E2 ⊢
    clear c0 e0 f0 hsz E1 F1
    refine (cloneBox_any b off n c zs w.heap.size wa (H.out.below E2.out.bl) hn (by omega)).mono ?_
    rintro e w2 ⟨A2, m2, c2, rfl, hm2, hW2, hb2⟩
    obtain rfl : m2 = n := by have h1 := hW2.len; have h2 := H.out.len; omega
    have E3 := Lib.hid (E2.out.below hb2)
    have W2 := Lib.hid (hW2.low E2.out.lt)
    have Q2 := Lib.hid hm2
    clear hW2 hb2 hm2 E2
    obtain ⟨b2, o2, rfl, hl2, hb2, _⟩ := W2.out.2 (by omega)
    obtain ⟨_, _, ⟨d0, f0⟩, ⟨d1, f1⟩, ⟨d2, f2⟩, ⟨d3, f3⟩, ⟨d4, f4⟩, ⟨d5, f5⟩, ⟨d6, f6⟩, ⟨d7, f7⟩, ⟨d8, f8⟩⟩ := W2.out.at_9 hk
    obtain ⟨u0, hu0⟩ : ∃ u, Hid (zs.getD (9 * k) 0 = u) := ⟨_, Lib.hid rfl⟩
    rw [hu0.out] at d0
    obtain ⟨u1, hu1⟩ : ∃ u, Hid (zs.getD (9 * k + 1) 0 = u) := ⟨_, Lib.hid rfl⟩
    rw [hu1.out] at d1
    obtain ⟨u2, hu2⟩ : ∃ u, Hid (zs.getD (9 * k + 2) 0 = u) := ⟨_, Lib.hid rfl⟩
    rw [hu2.out] at d2
    obtain ⟨u3, hu3⟩ : ∃ u, Hid (zs.getD (9 * k + 3) 0 = u) := ⟨_, Lib.hid rfl⟩
    rw [hu3.out] at d3
    obtain ⟨u4, hu4⟩ : ∃ u, Hid (zs.getD (9 * k + 4) 0 = u) := ⟨_, Lib.hid rfl⟩
    rw [hu4.out] at d4
    obtain ⟨u5, hu5⟩ : ∃ u, Hid (zs.getD (9 * k + 5) 0 = u) := ⟨_, Lib.hid rfl⟩
    rw [hu5.out] at d5
    obtain ⟨u6, hu6⟩ : ∃ u, Hid (zs.getD (9 * k + 6) 0 = u) := ⟨_, Lib.hid rfl⟩
    rw [hu6.out] at d6
    obtain ⟨u7, hu7⟩ : ∃ u, Hid (zs.getD (9 * k + 7) 0 = u) := ⟨_, Lib.hid rfl⟩
    rw [hu7.out] at d7
    obtain ⟨u8, hu8⟩ : ∃ u, Hid (zs.getD (9 * k + 8) 0 = u) := ⟨_, Lib.hid rfl⟩
    rw [hu8.out] at d8
    have e0 := E3.out.c0
    have e1 := E3.out.c1
    have e2 := E3.out.c2
    have e3 := E3.out.c3
    have e4 := E3.out.c4
    have e5 := E3.out.c5
    have e6 := E3.out.c6
    have e7 := E3.out.c7
    have e8 := E3.out.c8
    have W3 := Lib.hid (ysB_mk zs m2 k p x1 x2 x3 x4 x5 x6 x7 x8 W2.out hk)
    have B3 := Lib.hid (bl_set9 (off := o2) (k := k) E3.out.bl (show w.heap.size ≤ b2 by omega) (.int .i64 p) (.int .i64 x1) (.int .i64 x2) (.int .i64 x3) (.int .i64 x4) (.int .i64 x5) (.int .i64 x6) (.int .i64 x7) (.int .i64 x8))
    go_wp2_with fail
    refine (made_any _ m2 c2 _ _ W3.out.rd hn Q2.out).mono ?_
    rintro e w4 ⟨rfl, hb4⟩
    have W4 := Lib.hid (W3.out.below hb4)
    have B4 := Lib.hid (B3.out.trans (hb4.mono B3.out.size))
    clear hb4 W3 B3 e0 e1 e2 e3 e4 e5 e6 e7 e8 d0 f0 d1 f1 d2 f2 d3 f3 d4 f4 d5 f5 d6 f6 d7 f7 d8 f8
    have HN2 := Lib.hid HN.out
    obtain ⟨v, hv⟩ : ∃ v, Hid (vtB (ysB zs m2 k p x1 x2 x3 x4 x5 x6 x7 x8) m2 = v) := ⟨_, Lib.hid rfl⟩
    rw [hv.out]
    rw [hv.out] at HN2
    clear HN
    cases v
    · go_wp2
      go_ret2
      rw [HN2.out.1, HN2.out.2]
      exact GotKB.nil B4.out
    · go_wp2
      go_ret2
      rw [HN2.out.1, HN2.out.2]
      exact ⟨_, m2, m2, rfl, Nat.le_refl _, W4.out.low (by omega), B4.out⟩
end Go.Proofs.Ytjaecgobgpfbdaa
