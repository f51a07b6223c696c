/- Plain laws of layouts: the rectangles of boxes. Inner rectangles and turned ones. The boxes of a box below each other: the program. -/
import Derived.Test.YtjaecgobgpfbdaaTN
import Derived.Test.YtjaecgobgpfbdaaPG
import Derived.Test.YtjaecgobgpfbdaaPO
import Derived.Test.YtjaecgobgpfbdaaTQ
import Derived.Test.YtjaecgobgpfbdaaGB
import Derived.Deep.RegionHeld3
import Derived.StillTailTactics
namespace Go.Proofs.Ytjaecgobgpfbdaa

structure Rc where
  x : Int
  y : Int
  w : Int
  h : Int
def Rc.inn (r : Rc) (p : Int) : Rc := ⟨r.x + min p (r.w / 2), r.y + min p (r.h / 2), max 0 (r.w - 2 * p), max 0 (r.h - 2 * p)⟩
def fzL (zs : List Int) (n : Nat) (d : Bool) : List Nat → List Int
  | [] => []
  | k :: l => nd zs n d k :: 0 :: 10000 :: gwB zs k :: shB zs k :: fzL zs n d l
theorem fzL_snoc (zs : List Int) (n : Nat) (d : Bool) (l : List Nat) (k : Nat) : fzL zs n d (l ++ [k]) = fzL zs n d l ++ [nd zs n d k, 0, 10000, gwB zs k, shB zs k] := by
  induction l with
  | nil => rfl
  | cons a l ih => simp only [List.cons_append, fzL, ih]
theorem fzL_len (zs : List Int) (n : Nat) (d : Bool) (l : List Nat) : (fzL zs n d l).length = 5 * l.length := by
  induction l with
  | nil => rfl
  | cons a l ih => simp only [fzL, List.length_cons, ih]; omega
theorem fzL_at (zs : List Int) (n : Nat) (d : Bool) : ∀ (l : List Nat) (j : Nat), j < l.length →
    (fzL zs n d l).getD (5 * j) 0 = nd zs n d (l.getD j 0) ∧ (fzL zs n d l).getD (5 * j + 1) 0 = 0 ∧ (fzL zs n d l).getD (5 * j + 2) 0 = 10000 ∧ (fzL zs n d l).getD (5 * j + 3) 0 = gwB zs (l.getD j 0) ∧ (fzL zs n d l).getD (5 * j + 4) 0 = shB zs (l.getD j 0) := by
  intro l
  induction l with
  | nil => intro j hj; simp at hj
  | cons a l ih =>
    intro j hj
    rcases j with _ | j
    · exact ⟨rfl, rfl, rfl, rfl, rfl⟩
    · obtain ⟨h0, h1, h2, h3, h4⟩ := ih j (by simpa using hj)
      have e : ∀ q, (fzL zs n d (a :: l)).getD (5 * (j + 1) + q) 0 = (fzL zs n d l).getD (5 * j + q) 0 := fun q => by
        rw [show 5 * (j + 1) + q = (5 * j + q) + 5 by omega]
        rfl
      have e0 := e 0
      simp only [Nat.add_zero] at e0
      rw [e0, e 1, e 2, e 3, e 4]
      exact ⟨h0, h1, h2, h3, h4⟩
theorem fzL_ok {zs : List Int} {n i : Nat} (h : VT zs n) (_hi : i < n) (d : Bool) : okS (fzL zs n d (kdsL zs n (i : Int))) (kdsL zs n (i : Int)).length := fun j hj => by
  obtain ⟨h0, h1, h2, h3, h4⟩ := fzL_at zs n d (kdsL zs n (i : Int)) j hj
  have hk := kdsL_at h.par hj
  have hn := nd_le h d _ hk.2.1
  have o := h.ok hk.2.1
  unfold fx
  rw [h0, h1, h2, h3, h4, fxB_iff]
  exact ⟨by omega, by omega, by omega, by omega, o.gw, o.sh⟩
def alY (g : Int) (f : Nat → Int) (l : List Nat) (k : Nat) : Int := sumL f (l.take k) + k * g
theorem alY_zero (g : Int) (f : Nat → Int) (l : List Nat) : alY g f l 0 = 0 := by unfold alY; simp [sumL]
theorem alY_succ {g : Int} {f : Nat → Int} {l : List Nat} {k : Nat} (h : k < l.length) : alY g f l (k + 1) = alY g f l k + f (l.getD k 0) + g := by
  unfold alY
  rw [sumL_succ f h, show ((k + 1 : Nat) : Int) = (k : Int) + 1 by omega, Int.add_mul]
  omega
theorem alY_bd {zs : List Int} {n i : Nat} (h : VT zs n) (hi : i < n) (d : Bool) (k : Nat) (hk : k ≤ (kdsL zs n (i : Int)).length) : 0 ≤ alY (gpB zs i) (nd zs n d) (kdsL zs n (i : Int)) k ∧ alY (gpB zs i) (nd zs n d) (kdsL zs n (i : Int)) k ≤ 5000 := by
  have h1 := part_bd h d hi k
  have h8 := h.kids8 hi
  have o := h.ok hi
  unfold alY
  have := prod_bd (a := (k : Int)) (b := gpB zs i) (M := 8) (N := 50) (by omega) (by omega) o.gp.1 o.gp.2
  omega
def gapsP (zs : List Int) (n p : Nat) : Int := gpB zs p * (((kdsL zs n (p : Int)).length : Int) - 1)
def szR (zs : List Int) (n p : Nat) (d : Bool) (room : Int) : List Int := flL (fzL zs n d (kdsL zs n (p : Int))) (kdsL zs n (p : Int)).length (max 0 (room - gapsP zs n p))
def osR (zs : List Int) (n p : Nat) (d : Bool) (room : Int) (k : Nat) : Int := ofF (szR zs n p d room) room (gpB zs p) (jsB zs p) k
/- The rectangle of the k-th box in box p, whose inner rectangle is q. -/
def kidR (zs : List Int) (n p : Nat) (q : Rc) (k : Nat) : Rc :=
  if kdB zs p = 2 then ⟨q.x + osR zs n p true q.w k, q.y, (szR zs n p true q.w).getD k 0, q.h⟩
  else if kdB zs p = 3 then ⟨q.x, q.y + osR zs n p false q.h k, q.w, (szR zs n p false q.h).getD k 0⟩
  else ⟨q.x, q.y + alY (gpB zs p) (nd zs n false) (kdsL zs n (p : Int)) k, q.w, nd zs n false ((kdsL zs n (p : Int)).getD k 0)⟩
def layF : Nat → List Int → Nat → Int → Int → Nat → Rc
  | 0, _, _, W, H, _ => ⟨0, 0, W, H⟩
  | f + 1, zs, n, W, H, i => if 0 ≤ parB zs i then kidR zs n (parB zs i).toNat ((layF f zs n W H (parB zs i).toNat).inn (pdB zs (parB zs i).toNat)) (kdsL zs i (parB zs i)).length else ⟨0, 0, W, H⟩
def lay (zs : List Int) (n : Nat) (W H : Int) (i : Nat) : Rc := layF i zs n W H i
theorem layF_eq {zs : List Int} {n : Nat} (h : PK zs n) (W H : Int) : ∀ (f i : Nat), i < n → i ≤ f → layF f zs n W H i = lay zs n W H i := by
  intro f
  induction f using Nat.strongRecOn with
  | _ f ih =>
    intro i hi hf
    rcases f with _ | f
    · obtain rfl : i = 0 := by omega
      rfl
    · unfold lay
      rcases i with _ | i
      · have h0 : ¬ 0 ≤ parB zs 0 := by have := (h 0 hi).1 rfl; omega
        show (if 0 ≤ parB zs 0 then _ else _) = (⟨0, 0, W, H⟩ : Rc)
        rw [if_neg h0]
      · show (if 0 ≤ parB zs (i + 1) then _ else _) = (if 0 ≤ parB zs (i + 1) then _ else _)
        by_cases h0 : 0 ≤ parB zs (i + 1)
        · rw [if_pos h0, if_pos h0]
          obtain ⟨p, hp, hlt, hn⟩ := h.up hi h0
          rw [hp, Int.toNat_natCast, ih f (by omega) p hn (by omega)]
          by_cases e : i = f
          · subst e; rw [ih i (by omega) p hn (by omega)]
          · rw [ih i (by omega) p hn (by omega)]
        · rw [if_neg h0, if_neg h0]
theorem lay_zero (zs : List Int) (n : Nat) (W H : Int) : lay zs n W H 0 = ⟨0, 0, W, H⟩ := rfl
theorem kdsL_pos (zs : List Int) (a : Int) : ∀ n k, k < (kdsL zs n a).length → (kdsL zs ((kdsL zs n a).getD k 0) a).length = k := by
  intro n
  induction n with
  | zero => intro k hk; exact absurd hk (by simp [kdsL])
  | succ n ih =>
    intro k hk
    rw [kdsL_succ] at hk ⊢
    by_cases h : k < (kdsL zs n a).length
    · rw [show (kdsL zs n a ++ (if parB zs n = a then [n] else [])).getD k 0 = (kdsL zs n a).getD k 0 by
        simp [List.getD_eq_getElem?_getD, List.getElem?_append_left h]]
      exact ih k h
    · by_cases e : parB zs n = a
      · rw [if_pos e] at hk ⊢
        rw [List.length_append] at hk
        simp at hk
        obtain rfl : k = (kdsL zs n a).length := by omega
        rw [show (kdsL zs n a ++ [n]).getD (kdsL zs n a).length 0 = n by simp [List.getD_eq_getElem?_getD]]
      · rw [if_neg e, List.append_nil] at hk
        exact absurd hk h
theorem lay_kid {zs : List Int} {n p k : Nat} (h : PK zs n) (W H : Int) (hp : p < n) (hk : k < (kdsL zs n (p : Int)).length) : lay zs n W H ((kdsL zs n (p : Int)).getD k 0) = kidR zs n p ((lay zs n W H p).inn (pdB zs p)) k := by
  obtain ⟨h1, h2, h3⟩ := kdsL_at h hk
  have h4 := kdsL_pos zs (p : Int) n k hk
  have h5 := (kdsL_mem.1 h3).2
  generalize (kdsL zs n (p : Int)).getD k 0 = c at h1 h2 h4 h5
  unfold lay
  rcases c with _ | c
  · omega
  · show (if 0 ≤ parB zs (c + 1) then _ else _) = _
    rw [if_pos (by omega), h5, Int.toNat_natCast, h4, layF_eq h W H c p hp (by omega)]
    rfl
theorem szR_bd {zs : List Int} {n p : Nat} (h : VT zs n) (hp : p < n) (d : Bool) (room : Int) : AllB (szR zs n p d room) 0 10000 := by
  unfold szR flL
  refine mk_AllB _ _ _ _ fun i hi => ?_
  have ok := fzL_ok h hp d
  have h1 := flI_bd ok (sp := max 0 (room - gapsP zs n p)) hi
  have h2 := ok.at_ hi
  omega
theorem szR_len (zs : List Int) (n p : Nat) (d : Bool) (room : Int) : (szR zs n p d room).length = (kdsL zs n (p : Int)).length := by unfold szR flL; exact mk_len _ _
theorem szR_at {zs : List Int} {n p : Nat} (h : VT zs n) (hp : p < n) (d : Bool) (room : Int) {k : Nat} (hk : k < (kdsL zs n (p : Int)).length) : 0 ≤ (szR zs n p d room).getD k 0 ∧ (szR zs n p d room).getD k 0 ≤ 10000 :=
  (szR_bd h hp d room).getD k (by rw [szR_len]; exact hk)
theorem osR_bd {zs : List Int} {n p : Nat} (h : VT zs n) (hp : p < n) (d : Bool) {room : Int} (h0 : 0 ≤ room) (h1 : room ≤ 10000) {k : Nat} (hk : k < (kdsL zs n (p : Int)).length) : 0 ≤ osR zs n p d room k ∧ osR zs n p d room k ≤ 2700000 := by
  have o := h.ok hp
  have h8 := h.kids8 hp
  have ha := szR_bd h hp d room
  have hl := szR_len zs n p d room
  have b1 := ofLeft_bd (zs := szR zs n p d room) (sp := room) (gap := gpB zs p) ha (by omega) h0 (by omega) o.gp.1
  have b2 := ofAt_bd (j := jsB zs p) b1.1
  have b3 := ofS_bd (j := jsB zs p) ha o.gp.1 o.gp.2 b1.1 b1.2 (szR zs n p d room).length k (by omega)
  unfold osR ofF
  omega
def LB (r : Rc) (i : Nat) : Prop := (-(3000000 * ((i : Int) + 1)) ≤ r.x ∧ r.x ≤ 3000000 * ((i : Int) + 1)) ∧ (-(3000000 * ((i : Int) + 1)) ≤ r.y ∧ r.y ≤ 3000000 * ((i : Int) + 1)) ∧ (0 ≤ r.w ∧ r.w ≤ 10000) ∧ 0 ≤ r.h ∧ r.h ≤ 10000
theorem inn_bd {r : Rc} {i : Nat} {p : Int} (h : LB r i) (p0 : 0 ≤ p) (p1 : p ≤ 50) : (r.x ≤ (r.inn p).x ∧ (r.inn p).x ≤ r.x + 50) ∧ (r.y ≤ (r.inn p).y ∧ (r.inn p).y ≤ r.y + 50) ∧ (0 ≤ (r.inn p).w ∧ (r.inn p).w ≤ 10000) ∧ 0 ≤ (r.inn p).h ∧ (r.inn p).h ≤ 10000 := by
  obtain ⟨_, _, ⟨h5, h6⟩, h7, h8⟩ := h
  unfold Rc.inn
  dsimp only
  omega
theorem kidR_bd {zs : List Int} {n p c k : Nat} (h : VT zs n) (hp : p < n) {r : Rc} (hr : LB r p) (hc : p < c) (hk : k < (kdsL zs n (p : Int)).length) : LB (kidR zs n p (r.inn (pdB zs p)) k) c := by
  have o := h.ok hp
  have hi := inn_bd hr o.pd.1 o.pd.2
  obtain ⟨q1, q2, ⟨q5, q6⟩, q7, q8⟩ := hi
  obtain ⟨⟨r1, r2⟩, ⟨r3, r4⟩, _, _⟩ := hr
  unfold kidR
  by_cases h2 : kdB zs p = 2
  · rw [if_pos h2]
    have b1 := osR_bd h hp true q5 q6 hk
    have b2 := szR_at h hp true (r.inn (pdB zs p)).w hk
    exact ⟨⟨by dsimp only; omega, by dsimp only; omega⟩, ⟨by dsimp only; omega, by dsimp only; omega⟩, b2, q7, q8⟩
  · rw [if_neg h2]
    by_cases h3 : kdB zs p = 3
    · rw [if_pos h3]
      have b1 := osR_bd h hp false q7 q8 hk
      have b2 := szR_at h hp false (r.inn (pdB zs p)).h hk
      exact ⟨⟨by dsimp only; omega, by dsimp only; omega⟩, ⟨by dsimp only; omega, by dsimp only; omega⟩, ⟨q5, q6⟩, b2⟩
    · rw [if_neg h3]
      have b1 := alY_bd h hp false k (by omega)
      have b2 := nd_le h false _ (kdsL_at h.par hk).2.1
      exact ⟨⟨by dsimp only; omega, by dsimp only; omega⟩, ⟨by dsimp only; omega, by dsimp only; omega⟩, ⟨q5, q6⟩, by dsimp only; omega⟩
theorem kid_of {zs : List Int} {n c p : Nat} (hc : c < n) (hp : parB zs c = (p : Int)) : ∃ k, k < (kdsL zs n (p : Int)).length ∧ (kdsL zs n (p : Int)).getD k 0 = c := by
  have hm : c ∈ kdsL zs n (p : Int) := kdsL_mem.2 ⟨hc, hp⟩
  obtain ⟨k, hk, e⟩ := List.mem_iff_getElem.1 hm
  exact ⟨k, hk, by rw [List.getD_eq_getElem?_getD, List.getElem?_eq_getElem hk]; exact e⟩
theorem lay_bd {zs : List Int} {n : Nat} (h : VT zs n) {W H : Int} (hW : 0 ≤ W ∧ W ≤ 10000) (hH : 0 ≤ H ∧ H ≤ 10000) : ∀ i, i < n → LB (lay zs n W H i) i := by
  intro i
  induction i using Nat.strongRecOn with
  | _ i ih =>
    intro hi
    rcases Nat.eq_zero_or_pos i with e | e
    · subst e
      rw [lay_zero]
      exact ⟨by dsimp only; omega, by dsimp only; omega, hW, hH⟩
    · obtain ⟨p, hp, hlt, hn⟩ := h.par.up hi ((h.par i hi).2 e).1
      obtain ⟨k, hk, hc⟩ := kid_of hi hp
      have := lay_kid h.par W H hn hk
      rw [hc] at this
      rw [this]
      exact kidR_bd h hn (ih p hlt hn) hlt hk
/- The rectangles as a list of integers. -/
def LyAt (ys : List Int) (r : Rc) (j : Nat) : Prop := ys.getD (4 * j) 0 = r.x ∧ ys.getD (4 * j + 1) 0 = r.y ∧ ys.getD (4 * j + 2) 0 = r.w ∧ ys.getD (4 * j + 3) 0 = r.h
def lyC (r : Rc) (c : Nat) : Int := if c = 0 then r.x else if c = 1 then r.y else if c = 2 then r.w else r.h
def layL (zs : List Int) (n : Nat) (W H : Int) : List Int := mk (4 * n) fun q => lyC (lay zs n W H (q / 4)) (q % 4)
theorem layL_len (zs : List Int) (n : Nat) (W H : Int) : (layL zs n W H).length = 4 * n := mk_len _ _
theorem layL_of {zs ys : List Int} {n : Nat} {W H : Int} (hl : ys.length = 4 * n) (h : ∀ j, j < n → LyAt ys (lay zs n W H j) j) : ys = layL zs n W H := by
  refine getD_of_getElem? (by rw [layL_len, hl]) fun q hq => ?_
  rw [hl] at hq
  unfold layL
  rw [mk_getD _ _ _ hq]
  obtain ⟨h0, h1, h2, h3⟩ := h (q / 4) (by omega)
  have hm : q % 4 < 4 := Nat.mod_lt _ (by omega)
  have e : q = 4 * (q / 4) + q % 4 := by omega
  unfold lyC
  by_cases e0 : q % 4 = 0
  · rw [if_pos e0, ← h0]; congr 1; omega
  · rw [if_neg e0]
    by_cases e1 : q % 4 = 1
    · rw [if_pos e1, ← h1]; congr 1; omega
    · rw [if_neg e1]
      by_cases e2 : q % 4 = 2
      · rw [if_pos e2, ← h2]; congr 1; omega
      · rw [if_neg e2, ← h3]; congr 1; omega
theorem layL_at {zs : List Int} {n : Nat} (W H : Int) {j : Nat} (hj : j < n) : LyAt (layL zs n W H) (lay zs n W H j) j := by
  unfold layL
  have e : ∀ c, c < 4 → (mk (4 * n) fun q => lyC (lay zs n W H (q / 4)) (q % 4)).getD (4 * j + c) 0 = lyC (lay zs n W H j) c := fun c hc => by
    rw [mk_getD _ _ _ (by omega), show (4 * j + c) / 4 = j by omega, show (4 * j + c) % 4 = c by omega]
  exact ⟨e 0 (by omega), e 1 (by omega), e 2 (by omega), e 3 (by omega)⟩
/- A box on whose path another lies is that one, or lies in a box in that one. -/
theorem pth_kid {zs : List Int} {n i : Nat} (h : PK zs n) : ∀ j, j < n → i ∈ pth zs j → j = i ∨ ∃ k, k < (kdsL zs n (i : Int)).length ∧ (kdsL zs n (i : Int)).getD k 0 ∈ pth zs j := by
  intro j
  induction j using Nat.strongRecOn with
  | _ j ih =>
    intro hj hm
    by_cases e : j = i
    · exact .inl e
    · by_cases h0 : 0 ≤ parB zs j
      · obtain ⟨p, hp, hlt, hn⟩ := h.up hj h0
        rw [pth_up h hj hp] at hm ⊢
        rcases List.mem_append.1 hm with h1 | h1
        · rcases ih p hlt hn h1 with h2 | ⟨k, hk, h2⟩
          · subst h2
            obtain ⟨k, hk, hc⟩ := kid_of hj hp
            exact .inr ⟨k, hk, List.mem_append.2 (.inr (by rw [hc]; simp))⟩
          · exact .inr ⟨k, hk, List.mem_append.2 (.inl h2)⟩
        · exact absurd (List.mem_singleton.1 h1).symm e
      · rw [(pth_top h hj (by omega)).1] at hm
        exact absurd (List.mem_singleton.1 hm).symm e
theorem pth_zero_mem {zs : List Int} {n : Nat} (h : PK zs n) : ∀ j, j < n → 0 ∈ pth zs j := by
  intro j
  induction j using Nat.strongRecOn with
  | _ j ih =>
    intro hj
    by_cases h0 : 0 ≤ parB zs j
    · obtain ⟨p, hp, hlt, hn⟩ := h.up hj h0
      rw [pth_up h hj hp]
      exact List.mem_append.2 (.inl (ih p hlt hn))
    · obtain ⟨e, e0⟩ := pth_top h hj (by omega)
      rw [e, e0]; simp
end Go.Proofs.Ytjaecgobgpfbdaa
namespace Go.Proofs.Ytjaecgobgpfbdaa
open Go.RowKit

set_option maxHeartbeats 4000000 in
theorem iinn_any (r : Rc) (i : Nat) (k : Int) (w : World) (hr : LB r i) (hi : i ≤ 16) (k0 : 0 ≤ k) (k1 : k ≤ 50) :
    Calls Try.prog 74 #[.agg #[.int .i64 r.x, .int .i64 r.y, .int .i64 r.w, .int .i64 r.h], .int .i64 k] w fun e w' => e = .returned (.agg #[.int .i64 (r.inn k).x, .int .i64 (r.inn k).y, .int .i64 (r.inn k).w, .int .i64 (r.inn k).h]) ∧ Below w.heap.size w w' := by
  obtain ⟨⟨h1, h2⟩, ⟨h3, h4⟩, ⟨h5, h6⟩, h7, h8⟩ := hr
  obtain ⟨x, y, a, b⟩ := r
  dsimp only at h1 h2 h3 h4 h5 h6 h7 h8 ⊢
  have g1 : -60000000 ≤ x := by omega
  have g2 : x ≤ 60000000 := by omega
  have g3 : -60000000 ≤ y := by omega
  have g4 : y ≤ 60000000 := by omega
  clear h1 h2 h3 h4
  go_enter Try.func74, Try.ntmps74
  go_wp2
  go_quiet (fail)
  go_wp2
  all_goals
    refine bodyPost_ret (v := .agg #[.int .i64 ((Rc.mk x y a b).inn k).x, .int .i64 ((Rc.mk x y a b).inn k).y, .int .i64 ((Rc.mk x y a b).inn k).w, .int .i64 ((Rc.mk x y a b).inn k).h]) (by simp [results, Try.results74, go_sem, Rc.inn]; omega) rfl ⟨rfl, (by repeat (first | (with_reducible exact Below.refl _ _) | (with_reducible refine Below.drew ?_) | (with_reducible refine below_drewN ?_ _) | ((with_reducible refine Below.setCell ?_ ?_ _); rotate_left; (focus (dsimp only; omega))) | ((with_reducible refine Below.alloc ?_ ?_ _); rotate_left; (focus ((try simp only [World.size_alloc]); (first | omega | ((try simp); (try omega); done))))) | ((refine Below.trans ?_ (Below.mono (by assumption) ?_)); rotate_left; (focus ((try simp only [World.size_alloc]); (first | omega | ((try simp); (try omega); done)))))))⟩
set_option maxHeartbeats 4000000 in
theorem sinn_any (r : Rc) (i : Nat) (k : Int) (w : World) (hr : LB r i) (hi : i ≤ 16) (k0 : 0 ≤ k) (k1 : k ≤ 50) :
    Calls Try.prog 54 #[.agg #[.int .i64 r.x, .int .i64 r.y, .int .i64 r.w, .int .i64 r.h], .int .i64 k] w fun e w' => e = .returned (.agg #[.int .i64 (r.inn k).x, .int .i64 (r.inn k).y, .int .i64 (r.inn k).w, .int .i64 (r.inn k).h]) ∧ Below w.heap.size w w' := by
  obtain ⟨⟨h1, h2⟩, ⟨h3, h4⟩, ⟨h5, h6⟩, h7, h8⟩ := hr
  obtain ⟨x, y, a, b⟩ := r
  dsimp only at h1 h2 h3 h4 h5 h6 h7 h8 ⊢
  have g1 : -60000000 ≤ x := by omega
  have g2 : x ≤ 60000000 := by omega
  have g3 : -60000000 ≤ y := by omega
  have g4 : y ≤ 60000000 := by omega
  clear h1 h2 h3 h4
  go_enter Try.func54, Try.ntmps54
  go_wp2
  all_goals
    refine bodyPost_ret (v := .agg #[.int .i64 ((Rc.mk x y a b).inn k).x, .int .i64 ((Rc.mk x y a b).inn k).y, .int .i64 ((Rc.mk x y a b).inn k).w, .int .i64 ((Rc.mk x y a b).inn k).h]) (by simp [results, Try.results54, go_sem, Rc.inn]) rfl ⟨rfl, (by repeat (first | (with_reducible exact Below.refl _ _) | (with_reducible refine Below.drew ?_) | (with_reducible refine below_drewN ?_ _) | ((with_reducible refine Below.setCell ?_ ?_ _); rotate_left; (focus (dsimp only; omega))) | ((with_reducible refine Below.alloc ?_ ?_ _); rotate_left; (focus ((try simp only [World.size_alloc]); (first | omega | ((try simp); (try omega); done))))) | ((refine Below.trans ?_ (Below.mono (by assumption) ?_)); rotate_left; (focus ((try simp only [World.size_alloc]); (first | omega | ((try simp); (try omega); done)))))))⟩
theorem turnS_any (a b : Int) (w : World) :
    Calls Try.prog 85 #[.agg #[.int .i64 a, .int .i64 b]] w fun e w' => e = .returned (.agg #[.int .i64 b, .int .i64 a]) ∧ Below w.heap.size w w' := by
  go_enter Try.func85, Try.ntmps85
  go_wp2
  refine bodyPost_ret (v := .agg #[.int .i64 b, .int .i64 a]) (by simp [results, Try.results85, go_sem]) rfl ⟨rfl, ((Below.refl _ _).alloc (Nat.le_refl _) _).alloc (by simp) _⟩
theorem turnR_any (x y a b : Int) (w : World) :
    Calls Try.prog 84 #[.agg #[.int .i64 x, .int .i64 y, .int .i64 a, .int .i64 b]] w fun e w' => e = .returned (.agg #[.int .i64 y, .int .i64 x, .int .i64 b, .int .i64 a]) ∧ Below w.heap.size w w' := by
  go_enter Try.func84, Try.ntmps84
  go_wp2
  refine bodyPost_ret (v := .agg #[.int .i64 y, .int .i64 x, .int .i64 b, .int .i64 a]) (by simp [results, Try.results84, go_sem]) rfl ⟨rfl, (by repeat (first | (with_reducible exact Below.refl _ _) | (with_reducible refine Below.drew ?_) | (with_reducible refine below_drewN ?_ _) | ((with_reducible refine Below.setCell ?_ ?_ _); rotate_left; (focus (dsimp only; omega))) | ((with_reducible refine Below.alloc ?_ ?_ _); rotate_left; (focus ((try simp only [World.size_alloc]); (first | omega | ((try simp); (try omega); done))))) | ((refine Below.trans ?_ (Below.mono (by assumption) ?_)); rotate_left; (focus ((try simp only [World.size_alloc]); (first | omega | ((try simp); (try omega); done)))))))⟩
/- Six cells that hold: the two slices of a layout, a rectangle, the edge of its box. -/
structure InS (gl bt ot n ct bo oo co i : Nat) (r : Rc) (p : Int) (w : World) : Prop where
  t : w.cell? ⟨gl, 0, none⟩ = some (.slice (some ⟨bt, ot, none⟩) n ct)
  l : w.cell? ⟨gl, 1, none⟩ = some (.slice (some ⟨bo, oo, none⟩) n co)
  c0 : w.cell? ⟨bo, oo + i * 4, none⟩ = some (.int .i64 r.x)
  c1 : w.cell? ⟨bo, oo + i * 4 + 1, none⟩ = some (.int .i64 r.y)
  c2 : w.cell? ⟨bo, oo + i * 4 + 2, none⟩ = some (.int .i64 r.w)
  c3 : w.cell? ⟨bo, oo + i * 4 + 3, none⟩ = some (.int .i64 r.h)
  e : w.cell? ⟨bt, ot + i * 9 + 4, none⟩ = some (.int .i64 p)
theorem InS.below {gl bt ot n ct bo oo co i : Nat} {r : Rc} {p : Int} {w w' : World} (h : InS gl bt ot n ct bo oo co i r p w) (hb : Below w.heap.size w w') : InS gl bt ot n ct bo oo co i r p w' := by
  have hc := fun b o (hb' : b < w.heap.size) => hb.cell (p := ⟨b, o, none⟩) hb'
  have l1 := lt_of_cell h.t
  have l2 := lt_of_cell h.c0
  have l3 := lt_of_cell h.e
  exact ⟨(hc _ _ l1).trans h.t, (hc _ _ l1).trans h.l, (hc _ _ l2).trans h.c0, (hc _ _ l2).trans h.c1, (hc _ _ l2).trans h.c2, (hc _ _ l2).trans h.c3, (hc _ _ l3).trans h.e⟩
theorem InS.drew {gl bt ot n ct bo oo co i : Nat} {r : Rc} {p : Int} {w : World} (h : InS gl bt ot n ct bo oo co i r p w) : InS gl bt ot n ct bo oo co i r p w.drew := ⟨h.t, h.l, h.c0, h.c1, h.c2, h.c3, h.e⟩
theorem InS.cells {gl bt ot n ct bo oo co i : Nat} {r : Rc} {p : Int} {w : World} (h : InS gl bt ot n ct bo oo co i r p w) : w.cell? ⟨gl, 0, none⟩ = some (.slice (some ⟨bt, ot, none⟩) n ct) ∧ w.cell? ⟨gl, 1, none⟩ = some (.slice (some ⟨bo, oo, none⟩) n co) ∧ w.cell? ⟨bo, oo + i * 4, none⟩ = some (.int .i64 r.x) ∧ w.cell? ⟨bo, oo + i * 4 + 1, none⟩ = some (.int .i64 r.y) ∧ w.cell? ⟨bo, oo + i * 4 + 2, none⟩ = some (.int .i64 r.w) ∧ w.cell? ⟨bo, oo + i * 4 + 3, none⟩ = some (.int .i64 r.h) ∧ w.cell? ⟨bt, ot + i * 9 + 4, none⟩ = some (.int .i64 p) := ⟨h.t, h.l, h.c0, h.c1, h.c2, h.c3, h.e⟩
theorem InS.far {gl bt ot n ct bo oo co i : Nat} {r : Rc} {p : Int} {w : World} (h : InS gl bt ot n ct bo oo co i r p w) (q : Addr) (u : Value) (h1 : ¬ gl = q.block) (h2 : ¬ bo = q.block) (h3 : ¬ bt = q.block) : InS gl bt ot n ct bo oo co i r p (w.setCell q u) := by
  have hc := fun b o (hb' : ¬ b = q.block) => World.cell?_of_block (w := w) (w' := w.setCell q u) (a := ⟨b, o, none⟩) (Below.heap_setCell w q u b hb')
  exact ⟨(hc _ _ h1).trans h.t, (hc _ _ h1).trans h.l, (hc _ _ h2).trans h.c0, (hc _ _ h2).trans h.c1, (hc _ _ h2).trans h.c2, (hc _ _ h2).trans h.c3, (hc _ _ h3).trans h.e⟩
set_option maxHeartbeats 8000000 in
theorem inner_any (gl bt ot n ct bo oo co i : Nat) (r : Rc) (p : Int) (w : World) (h : InS gl bt ot n ct bo oo co i r p w) (hi : i < n) (hn : n ≤ 16) (hr : LB r i) (k0 : 0 ≤ p) (k1 : p ≤ 50) :
    Calls Try.prog 56 #[.pointer (some ⟨gl, 0, none⟩), .int .i64 i] w fun e w' => e = .returned (.agg #[.int .i64 (r.inn p).x, .int .i64 (r.inn p).y, .int .i64 (r.inn p).w, .int .i64 (r.inn p).h]) ∧ Below w.heap.size w w' := by
  have H := Lib.hid h
  have HR := Lib.hid hr
  have l1 := lt_of_cell h.t
  have l2 := lt_of_cell h.c0
  have l3 := lt_of_cell h.e
  dsimp only at l1 l2 l3
  obtain ⟨q, hq⟩ : ∃ q, Hid (r.inn p = q) := ⟨_, Lib.hid rfl⟩
  rw [hq.out]
  have hi0 : (0 : Int) ≤ (i : Int) := by omega
  have hi1 : (i : Int) < (n : Int) := by omega
  clear h hr
  go_enter Try.func56, Try.ntmps56
  go_wp2
  have H1 := Lib.hid ((H.out.below ((Below.refl w.heap.size w).alloc (Nat.le_refl _) (.cells #[.int .i64 0, .int .i64 0, .int .i64 0, .int .i64 0] 25))).drew)
  go_region_held3 (fun w' => w'.cell? ⟨gl, 0, none⟩ = some (.slice (some ⟨bt, ot, none⟩) n ct) ∧ w'.cell? ⟨gl, 1, none⟩ = some (.slice (some ⟨bo, oo, none⟩) n co) ∧ w'.cell? ⟨bo, oo + i * 4, none⟩ = some (.int .i64 r.x) ∧ w'.cell? ⟨bo, oo + i * 4 + 1, none⟩ = some (.int .i64 r.y) ∧ w'.cell? ⟨bo, oo + i * 4 + 2, none⟩ = some (.int .i64 r.w) ∧ w'.cell? ⟨bo, oo + i * 4 + 3, none⟩ = some (.int .i64 r.h) ∧ w'.cell? ⟨bt, ot + i * 9 + 4, none⟩ = some (.int .i64 p))
    ((first | exact H1.out.cells | (refine InS.cells ?_; repeat (first | (with_reducible exact H2.out) | ((with_reducible refine InS.far ?_ _ _ ?_ ?_ ?_); rotate_left; (focus (dsimp only; omega)); (focus (dsimp only; omega)); (focus (dsimp only; omega)))))))
    ((go_at_call 74; refine (iinn_any r i p _ HR.out (by omega) k0 k1).mono ?_; rintro e w2 ⟨rfl, hb⟩; rw [hq.out]; have H2 := Lib.hid (H1.out.below hb); have B2 := Lib.hid ((((Below.refl w.heap.size w).alloc (Nat.le_refl _) (.cells #[.int .i64 0, .int .i64 0, .int .i64 0, .int .i64 0] 25)).drew).trans (hb.mono (by simp))); have hc := fun o => hb.cell (p := ⟨w.heap.size, o, none⟩) (by simp); have hf := fun o => hb.frozen (p := ⟨w.heap.size, o, none⟩) (by simp); have u0 : w2.cell? ⟨w.heap.size, 0, none⟩ = some (.int .i64 0) := ((hc 0).trans (by simp [go_sem])); have u1 : w2.cell? ⟨w.heap.size, 1, none⟩ = some (.int .i64 0) := ((hc 1).trans (by simp [go_sem])); have u2 : w2.cell? ⟨w.heap.size, 2, none⟩ = some (.int .i64 0) := ((hc 2).trans (by simp [go_sem])); have u3 : w2.cell? ⟨w.heap.size, 3, none⟩ = some (.int .i64 0) := ((hc 3).trans (by simp [go_sem])); have f0 : w2.frozen? ⟨w.heap.size, 0, none⟩ = false := ((hf 0).trans (by simp [go_sem])); have f1 : w2.frozen? ⟨w.heap.size, 1, none⟩ = false := ((hf 1).trans (by simp [go_sem])); have f2 : w2.frozen? ⟨w.heap.size, 2, none⟩ = false := ((hf 2).trans (by simp [go_sem])); have f3 : w2.frozen? ⟨w.heap.size, 3, none⟩ = false := ((hf 3).trans (by simp [go_sem])); clear hb hc hf))
  all_goals
    go_wp2
    refine bodyPost_ret (v := .agg #[.int .i64 q.x, .int .i64 q.y, .int .i64 q.w, .int .i64 q.h]) (by simp [results, Try.results56, go_sem, u0, u1, u2, u3]) rfl ⟨rfl, (((B2.out.setCell (Nat.le_refl _) _).setCell (Nat.le_refl _) _).setCell (Nat.le_refl _) _).setCell (Nat.le_refl _) _⟩
end Go.Proofs.Ytjaecgobgpfbdaa
namespace Go.Proofs.Ytjaecgobgpfbdaa
open Go.RowKit

/- Rectangle k of a list is another one. -/
def putR (n : Nat) (ys : List Int) (k : Nat) (r : Rc) : List Int := mk (4 * n) fun i => if i = k * 4 + 3 then r.h else if i = k * 4 + 2 then r.w else if i = k * 4 + 1 then r.y else if i = k * 4 then r.x else ys.getD i 0
theorem putR_same {n : Nat} {ys : List Int} {k : Nat} (hk : k < n) (r : Rc) : LyAt (putR n ys k r) r k := by
  unfold putR LyAt
  rw [mk_getD _ _ _ (by omega), mk_getD _ _ _ (by omega), mk_getD _ _ _ (by omega), mk_getD _ _ _ (by omega)]
  refine ⟨?_, ?_, ?_, ?_⟩
  · rw [if_neg (by omega), if_neg (by omega), if_neg (by omega), if_pos (by omega)]
  · rw [if_neg (by omega), if_neg (by omega), if_pos (by omega)]
  · rw [if_neg (by omega), if_pos (by omega)]
  · rw [if_pos (by omega)]
theorem putR_other {n : Nat} {ys : List Int} {k j : Nat} (hj : j < n) (hne : ¬ j = k) (r r' : Rc) (h : LyAt ys r' j) : LyAt (putR n ys k r) r' j := by
  unfold putR LyAt
  rw [mk_getD _ _ _ (by omega), mk_getD _ _ _ (by omega), mk_getD _ _ _ (by omega), mk_getD _ _ _ (by omega)]
  obtain ⟨h0, h1, h2, h3⟩ := h
  refine ⟨?_, ?_, ?_, ?_⟩
  · rw [if_neg (by omega), if_neg (by omega), if_neg (by omega), if_neg (by omega), h0]
  · rw [if_neg (by omega), if_neg (by omega), if_neg (by omega), if_neg (by omega), h1]
  · rw [if_neg (by omega), if_neg (by omega), if_neg (by omega), if_neg (by omega), h2]
  · rw [if_neg (by omega), if_neg (by omega), if_neg (by omega), if_neg (by omega), h3]
def OkA (zs : List Int) (n : Nat) (W H : Int) (ys : List Int) (j : Nat) : Prop := LyAt ys (lay zs n W H j) j
theorem OkA.put {zs : List Int} {n : Nat} {W H : Int} {ys : List Int} {j k : Nat} (h : OkA zs n W H ys j) (hj : j < n) (_hk : k < n) : OkA zs n W H (putR n ys k (lay zs n W H k)) j := by
  by_cases e : j = k
  · subst e; exact putR_same hj _
  · exact putR_other hj e _ _ h
theorem OkA.here {zs : List Int} {n : Nat} {W H : Int} {ys : List Int} {k : Nat} (hk : k < n) : OkA zs n W H (putR n ys k (lay zs n W H k)) k := putR_same hk _
theorem Wr.putR {w : World} {lo b off n : Nat} {ys : List Int} (h : Wr w lo (some ⟨b, off, none⟩) (4 * n) ys) {k : Nat} (hk : k < n) (r : Rc) :
    Wr ((((w.setCell ⟨b, off + k * 4, none⟩ (.int .i64 r.x)).setCell ⟨b, off + k * 4 + 1, none⟩ (.int .i64 r.y)).setCell ⟨b, off + k * 4 + 2, none⟩ (.int .i64 r.w)).setCell ⟨b, off + k * 4 + 3, none⟩ (.int .i64 r.h)) lo (some ⟨b, off, none⟩) (4 * n) (Go.Proofs.Ytjaecgobgpfbdaa.putR n ys k r) := by
  have e := eq_mk ys
  rw [h.1] at e
  rw [e] at h
  exact h.set4 hk r.x r.y r.w r.h
/- What lies beside the walk of a layout: its two slices, the tree, the rectangles. -/
structure LyS (zs : List Int) (n gl bt ot ct bo oo co lo : Nat) (ys : List Int) (w : World) : Prop where
  t : w.cell? ⟨gl, 0, none⟩ = some (.slice (some ⟨bt, ot, none⟩) n ct)
  l : w.cell? ⟨gl, 1, none⟩ = some (.slice (some ⟨bo, oo, none⟩) n co)
  rd : Rd w w.heap.size (some ⟨bt, ot, none⟩) (9 * n) zs
  wr : Wr w lo (some ⟨bo, oo, none⟩) (4 * n) ys
  g1 : ¬ gl = bo
  g2 : ¬ bt = bo
section
variable {zs ys ys' : List Int} {n gl bt ot ct bo oo co lo : Nat} {w w' : World}
theorem LyS.tree (h : LyS zs n gl bt ot ct bo oo co lo ys w) (hn : 0 < n) : bt < w.heap.size ∧ ∀ i, i < 9 * n → w.cell? ⟨bt, ot + i, none⟩ = some (.int .i64 (zs.getD i 0)) := by
  obtain ⟨b, o, e, h1, h2⟩ := h.rd.2 (by omega)
  injection e with e
  injection e with e1 e2
  subst e1 e2
  exact ⟨h1, h2⟩
theorem LyS.grown (h : LyS zs n gl bt ot ct bo oo co lo ys w) (hn : 0 < n) (hg : w.grownBy w' (some bo)) (hw : Wr w' lo (some ⟨bo, oo, none⟩) (4 * n) ys') : LyS zs n gl bt ot ct bo oo co lo ys' w' := by
  have hc := (gcell hg).1
  have l1 := lt_of_cell h.t
  obtain ⟨l2, hr⟩ := h.tree hn
  exact ⟨(hc _ _ l1 h.g1).trans h.t, (hc _ _ l1 h.g1).trans h.l, ⟨h.rd.1, fun _ => ⟨bt, ot, rfl, Nat.lt_of_lt_of_le l2 hg.size, fun i hi => (hc _ _ l2 h.g2).trans (hr i hi)⟩⟩, hw, h.g1, h.g2⟩
theorem LyS.below (h : LyS zs n gl bt ot ct bo oo co lo ys w) (hn : 0 < n) (hb : Below w.heap.size w w') : LyS zs n gl bt ot ct bo oo co lo ys w' := h.grown hn (gb_below hb _) (h.wr.below hb)
theorem LyS.drew (h : LyS zs n gl bt ot ct bo oo co lo ys w) : LyS zs n gl bt ot ct bo oo co lo ys w.drew := ⟨h.t, h.l, h.rd, h.wr, h.g1, h.g2⟩
theorem LyS.inS (h : LyS zs n gl bt ot ct bo oo co lo ys w) {i : Nat} (hi : i < n) {r : Rc} (hr : LyAt ys r i) : InS gl bt ot n ct bo oo co i r (pdB zs i) w := by
  obtain ⟨_, hc⟩ := h.tree (by omega)
  obtain ⟨_, _, _, _, e, _⟩ := at9 hc hi
  obtain ⟨_, _, ⟨d0, _⟩, ⟨d1, _⟩, ⟨d2, _⟩, ⟨d3, _⟩⟩ := h.wr.at_4 hi
  obtain ⟨r0, r1, r2, r3⟩ := hr
  rw [r0] at d0
  rw [r1] at d1
  rw [r2] at d2
  rw [r3] at d3
  exact ⟨h.t, h.l, d0, d1, d2, d3, e⟩
end
/- What a function has done that lays the boxes of a list out. -/
def Laid (zs : List Int) (n : Nat) (W H : Int) (bo oo lo : Nat) (l : List Nat) (ys : List Int) (w : World) (e : Ending) (w' : World) : Prop :=
  e = .returned (.tuple #[]) ∧ w.grownBy w' (some bo) ∧ ∃ ys', Wr w' lo (some ⟨bo, oo, none⟩) (4 * n) ys' ∧ (∀ j, j < n → OkA zs n W H ys j → OkA zs n W H ys' j) ∧ ∀ k, k < l.length → OkA zs n W H ys' (l.getD k 0)
structure Rm (g : Nat) (q : Rc) (w : World) : Prop where
  c0 : w.cell? ⟨g, 0, none⟩ = some (.int .i64 q.x)
  c1 : w.cell? ⟨g, 1, none⟩ = some (.int .i64 q.y)
  c2 : w.cell? ⟨g, 2, none⟩ = some (.int .i64 q.w)
  c3 : w.cell? ⟨g, 3, none⟩ = some (.int .i64 q.h)
  f0 : w.frozen? ⟨g, 0, none⟩ = false
  f1 : w.frozen? ⟨g, 1, none⟩ = false
  f2 : w.frozen? ⟨g, 2, none⟩ = false
  f3 : w.frozen? ⟨g, 3, none⟩ = false
section
variable {g : Nat} {q : Rc} {w w' : World}
theorem Rm.keep (h : Rm g q w) (hb : w'.heap[g]? = w.heap[g]?) : Rm g q w' := by
  have hc := fun o => World.cell?_of_block (w := w) (w' := w') (a := ⟨g, o, none⟩) hb
  have hf := fun o => World.frozen?_of_block (w := w) (w' := w') (a := ⟨g, o, none⟩) hb
  exact ⟨(hc 0).trans h.c0, (hc 1).trans h.c1, (hc 2).trans h.c2, (hc 3).trans h.c3, (hf 0).trans h.f0, (hf 1).trans h.f1, (hf 2).trans h.f2, (hf 3).trans h.f3⟩
theorem Rm.lt (h : Rm g q w) : g < w.heap.size := lt_of_cell h.c0
theorem Rm.below (h : Rm g q w) (hb : Below w.heap.size w w') : Rm g q w' := h.keep (hb.block g h.lt)
theorem Rm.alloc (h : Rm g q w) (o : Obj) : Rm g q (w.alloc o) := h.below ((Below.refl _ _).alloc (Nat.le_refl _) _)
theorem Rm.grown {bo : Nat} (h : Rm g q w) (hg : w.grownBy w' (some bo)) (hne : ¬ g = bo) : Rm g q w' := h.keep (hg.block g h.lt (fun e => hne (by injection e)))
theorem Rm.grownR {row : Option Nat} (h : Rm g q w) (hg : w.grownBy w' row) (hne : ¬ some g = row) : Rm g q w' := h.keep (hg.block g h.lt hne)
theorem Rm.drew (h : Rm g q w) : Rm g q w.drew := h.keep rfl
theorem Rm.far (h : Rm g q w) {p : Addr} (hne : ¬ g = p.block) (u : Value) : Rm g q (w.setCell p u) := h.keep (Below.heap_setCell w p u g hne)
theorem Rm.far4 (h : Rm g q w) {b o0 o1 o2 o3 : Nat} (hne : ¬ g = b) (u0 u1 u2 u3 : Value) : Rm g q ((((w.setCell ⟨b, o0, none⟩ u0).setCell ⟨b, o1, none⟩ u1).setCell ⟨b, o2, none⟩ u2).setCell ⟨b, o3, none⟩ u3) := (((h.far (p := ⟨b, o0, none⟩) hne u0).far (p := ⟨b, o1, none⟩) hne u1).far (p := ⟨b, o2, none⟩) hne u2).far (p := ⟨b, o3, none⟩) hne u3
theorem Rm.set (h : Rm g q w) (x y a b : Int) : Rm g ⟨x, y, a, b⟩ ((((w.setCell ⟨g, 0, none⟩ (.int .i64 x)).setCell ⟨g, 1, none⟩ (.int .i64 y)).setCell ⟨g, 2, none⟩ (.int .i64 a)).setCell ⟨g, 3, none⟩ (.int .i64 b)) := by
  have e0 := h.c0
  have e1 := h.c1
  have e2 := h.c2
  have e3 := h.c3
  have e4 := h.f0
  have e5 := h.f1
  have e6 := h.f2
  have e7 := h.f3
  refine ⟨?_, ?_, ?_, ?_, ?_, ?_, ?_, ?_⟩ <;> simp [go_sem, *]
theorem gb_set4 {a w : World} {b o0 o1 o2 o3 : Nat} (h : a.grownBy w (some b)) (u0 u1 u2 u3 : Value) : a.grownBy ((((w.setCell ⟨b, o0, none⟩ u0).setCell ⟨b, o1, none⟩ u1).setCell ⟨b, o2, none⟩ u2).setCell ⟨b, o3, none⟩ u3) (some b) := gb_set (gb_set (gb_set (gb_set h (.inl rfl) _) (.inl rfl) _) (.inl rfl) _) (.inl rfl) _
theorem Rm.made (w : World) (q : Rc) (e : TypeId) : Rm w.heap.size q (w.alloc (.cells #[.int .i64 q.x, .int .i64 q.y, .int .i64 q.w, .int .i64 q.h] e)) := by
  refine ⟨?_, ?_, ?_, ?_, ?_, ?_, ?_, ?_⟩ <;> simp [go_sem]
end
set_option maxRecDepth 100000 in
set_option maxHeartbeats 8000000 in
theorem block_any (zs : List Int) (n gl bt ot ct bo oo co lo i : Nat) (W H : Int) (ys : List Int) (A2 : Option Addr) (c2 : Nat) (w : World) (hv : VT zs n) (hW : 0 ≤ W ∧ W ≤ 10000) (hH : 0 ≤ H ∧ H ≤ 10000) (hi : i < n) (h : LyS zs n gl bt ot ct bo oo co lo ys w) (hok : OkA zs n W H ys i) (hA : Wr w (bo + 1) A2 (kdsL zs n (i : Int)).length (ki (kdsL zs n (i : Int)))) (h2 : ¬ kdB zs i = 2) (h3 : ¬ kdB zs i = 3) :
    Calls Try.prog 72 #[.pointer (some ⟨gl, 0, none⟩), .int .i64 i, .slice A2 (kdsL zs n (i : Int)).length c2] w (Laid zs n W H bo oo lo (kdsL zs n (i : Int)) ys w) := by
  have HV := Lib.hid hv
  have S0 := Lib.hid h
  have K0 := Lib.hid hok
  have HA := Lib.hid hA
  have n16 := hv.few
  have n1 := hv.one
  have LB0 := Lib.hid (lay_bd hv hW hH i hi)
  have o := Lib.hid (hv.ok hi)
  have hbo : bo < w.heap.size := by
    obtain ⟨b, oo', e, _, hb, _⟩ := h.wr.2 (by omega)
    injection e with e
    injection e with e1
    omega
  have hgl := lt_of_cell h.t
  dsimp only at hgl
  have hbt := (h.tree (by omega)).1
  have g1 := h.g1
  have g2 := h.g2
  obtain ⟨r, hr⟩ : ∃ r, Hid (lay zs n W H i = r) := ⟨_, Lib.hid rfl⟩
  obtain ⟨q, hq⟩ : ∃ q, Hid (r.inn (pdB zs i) = q) := ⟨_, Lib.hid rfl⟩
  obtain ⟨m, hm⟩ : ∃ m, Hid ((kdsL zs n (i : Int)).length = m) := ⟨_, Lib.hid rfl⟩
  rw [hr.out] at LB0
  have hqb := inn_bd LB0.out o.out.pd.1 o.out.pd.2
  have hrb := LB0.out
  rw [hq.out] at hqb
  have y0 : -100000000 ≤ q.y := by obtain ⟨_, ⟨a, _⟩, _⟩ := hrb; omega
  have y1 : q.y ≤ 100000000 := by obtain ⟨_, ⟨_, a⟩, _⟩ := hrb; omega
  obtain ⟨p5, hp5⟩ : ∃ x, Hid (gpB zs i = x) := ⟨_, Lib.hid rfl⟩
  have b5 : 0 ≤ p5 ∧ p5 ≤ 50 := by rw [← hp5.out]; exact o.out.gp
  obtain ⟨b50, b51⟩ := b5
  have hm8 : m ≤ 8 := by rw [← hm.out]; exact hv.kids8 hi
  have HLK := Lib.hid (fun k (hk : k < (kdsL zs n (i : Int)).length) => lay_kid hv.par W H hi hk)
  have HK : Hid (∀ k, k < m → lay zs n W H ((kdsL zs n (i : Int)).getD k 0) = ⟨q.x, q.y + alY p5 (nd zs n false) (kdsL zs n (i : Int)) k, q.w, nd zs n false ((kdsL zs n (i : Int)).getD k 0)⟩) := Lib.hid fun k hk => by
    rw [HLK.out k (by rw [hm.out]; exact hk), hr.out, hq.out]
    unfold kidR
    rw [if_neg h2, if_neg h3, hp5.out]
  rw [hm.out] at HA ⊢
  have hfd : ∀ (w : World) (x y : Int), (Instr.field 72 (.agg #[.int .i64 x, .int .i64 y]) 1).run Try.prog w = .ok (.int .i64 y) w := fun _ _ _ => by kernel_rfl
  have hi0 : (0 : Int) ≤ (i : Int) := by omega
  have hin : (i : Int) < (n : Int) := by omega
  clear h hok hA hqb hrb HLK h2 h3 hv
  go_enter Try.func72, Try.ntmps72
  go_wp2_with fail
  refine (inner_any gl bt ot n ct bo oo co i r (pdB zs i) w (S0.out.inS hi (by rw [← hr.out]; exact K0.out)) hi n16 LB0.out o.out.pd.1 o.out.pd.2).mono ?_
  rintro e w1 ⟨rfl, hb⟩
  rw [hq.out]
  have B1 := Lib.hid (hb.alloc hb.size (.cells #[.int .i64 q.x, .int .i64 q.y, .int .i64 q.w, .int .i64 q.h] 25))
  have R1 := Lib.hid (Rm.made w1 q 25)
  have hg6 : ¬ w1.heap.size = bo := by have := hb.size; omega
  have hg6' : w.heap.size ≤ w1.heap.size := hb.size
  clear hb
  go_wp2
  obtain ⟨g, hg⟩ : ∃ g, Hid (w1.heap.size = g) := ⟨_, Lib.hid rfl⟩
  rw [hg.out] at R1 hg6 hg6' ⊢
  generalize w1.alloc (.cells #[.int .i64 q.x, .int .i64 q.y, .int .i64 q.w, .int .i64 q.h] 25) = wa at B1 R1 ⊢
  go_loopw [7, 18] (fun y s wr => ∃ k : Nat, k ≤ m ∧ s = .int .i64 k ∧ y = .int .i64 (q.y + alY p5 (nd zs n false) (kdsL zs n (i : Int)) k) ∧ Hid (w.grownBy wr (some bo) ∧ Rm g q wr ∧ ∃ ys', Wr wr lo (some ⟨bo, oo, none⟩) (4 * n) ys' ∧ (∀ j, j < n → OkA zs n W H ys j → OkA zs n W H ys' j) ∧ ∀ z, z < k → OkA zs n W H ys' ((kdsL zs n (i : Int)).getD z 0))) (fun _ s _ => m - (intOf s).toNat)
  case atStart => exact ⟨0, Nat.zero_le _, rfl, by rw [alY_zero, Int.add_zero], Lib.hid ⟨gb_below B1.out _, R1.out, ys, S0.out.wr.below B1.out, fun _ _ h => h, fun z hz => absurd hz (by omega)⟩⟩
  case round =>
    obtain ⟨k, hk, rfl, rfl, hS⟩ := hrel
    by_cases hlt : k < m
    · obtain ⟨ys1, hys⟩ : ∃ ys1, Hid (Wr wr lo (some ⟨bo, oo, none⟩) (4 * n) ys1 ∧ (∀ j, j < n → OkA zs n W H ys j → OkA zs n W H ys1 j) ∧ ∀ z, z < k → OkA zs n W H ys1 ((kdsL zs n (i : Int)).getD z 0)) := hS.out.2.2
      have S1 := Lib.hid (S0.out.grown (by omega) hS.out.1 hys.out.1)
      have A1 := Lib.hid (HA.out.grown hS.out.1 (fun g e => by injection e with e; omega))
      obtain ⟨ga, gb, gc⟩ := kdsL_at HV.out.par (show k < (kdsL zs n (i : Int)).length by rw [hm.out]; exact hlt)
      obtain ⟨j, hj⟩ : ∃ j, Hid ((kdsL zs n (i : Int)).getD k 0 = j) := ⟨_, Lib.hid rfl⟩
      rw [hj.out] at ga gb
      clear gc
      obtain ⟨b2, o2, rfl, hb2, hb3, hcc⟩ := A1.out.2 (by omega)
      have ck := (hcc k hlt).1
      rw [ki_get (by rw [hm.out]; exact hlt), hj.out] at ck
      clear hcc hb2 hb3
      obtain ⟨G, hG⟩ : ∃ x, Hid (nd zs n false j = x) := ⟨_, Lib.hid rfl⟩
      have bG : 0 ≤ G ∧ G ≤ 4000 := by rw [← hG.out]; exact nd_le HV.out false j gb
      obtain ⟨bG0, bG1⟩ := bG
      have bY := alY_bd HV.out hi false k (by rw [hm.out]; exact hk)
      have hnx := Lib.hid (alY_succ (g := gpB zs i) (f := nd zs n false) (show k < (kdsL zs n (i : Int)).length by rw [hm.out]; exact hlt))
      rw [hp5.out, hj.out, hG.out] at hnx
      rw [hp5.out] at bY
      have HKk := Lib.hid (HK.out k hlt)
      rw [hj.out, hG.out] at HKk
      obtain ⟨Y, hY⟩ : ∃ Y, Hid (alY p5 (nd zs n false) (kdsL zs n (i : Int)) k = Y) := ⟨_, Lib.hid rfl⟩
      rw [hY.out] at bY HKk hnx ⊢
      obtain ⟨bY0, bY1⟩ := bY
      have hkm : (k : Int) < (m : Int) := by omega
      have hk0 : (0 : Int) ≤ (k : Int) := by omega
      have hj0 : (0 : Int) ≤ (j : Int) := by omega
      have hjn : (j : Int) < (n : Int) := by omega
      have e0 := S1.out.t
      go_wp2_with fail
      refine (inat_any _ n ct j zs wr S1.out.rd gb HV.out).mono ?_
      rintro e w2 ⟨rfl, hb⟩
      rw [hG.out]
      have S2 := Lib.hid (S1.out.below (by omega) hb)
      have R2 := Lib.hid (hS.out.2.1.below hb)
      have GB2 := Lib.hid (gb_trans hS.out.1 (gb_below hb _))
      clear ck hb e0 A1 S1
      have e0 := S2.out.t
      have e1 := S2.out.l
      have r0 := R2.out.c0
      have r1 := R2.out.c1
      have r2 := R2.out.c2
      obtain ⟨_, _, ⟨d0, f0⟩, ⟨d1, f1⟩, ⟨d2, f2⟩, ⟨d3, f3⟩⟩ := S2.out.wr.at_4 gb
      obtain ⟨u0, hu0⟩ : ∃ u, Hid (ys1.getD (4 * j) 0 = u) := ⟨_, Lib.hid rfl⟩
      rw [hu0.out] at d0
      obtain ⟨u1, hu1⟩ : ∃ u, Hid (ys1.getD (4 * j + 1) 0 = u) := ⟨_, Lib.hid rfl⟩
      rw [hu1.out] at d1
      obtain ⟨u2, hu2⟩ : ∃ u, Hid (ys1.getD (4 * j + 2) 0 = u) := ⟨_, Lib.hid rfl⟩
      rw [hu2.out] at d2
      obtain ⟨u3, hu3⟩ : ∃ u, Hid (ys1.getD (4 * j + 3) 0 = u) := ⟨_, Lib.hid rfl⟩
      rw [hu3.out] at d3
      go_wp2
      go_still_tail 13, (by kernel_rfl)
      change wpList _ _ _ _ _ w2.drew
      have S3 := Lib.hid S2.out.drew
      have R3 := Lib.hid R2.out.drew
      have GB3 := Lib.hid (gb_drew GB2.out)
      clear e0 e1 r0 r1 r2 d0 f0 d1 f1 d2 f2 d3 f3 S2 R2 GB2
      generalize w2.drew = w3 at S3 R3 GB3 ⊢
      have e0 := S3.out.t
      have c5 := (at9 (S3.out.tree (by omega)).2 hi).2.2.2.2.2.1
      rw [show zs.getD (9 * i + 5) 0 = p5 from hp5.out] at c5
      obtain ⟨_, _, ⟨d0, f0⟩, ⟨d1, f1⟩, ⟨d2, f2⟩, ⟨d3, f3⟩⟩ := S3.out.wr.at_4 gb
      rw [hu0.out] at d0
      rw [hu1.out] at d1
      rw [hu2.out] at d2
      rw [hu3.out] at d3
      refine wpList_plain rfl fun K hK => ?_
      go_simp
      refine hK _ _ ?_
      clear hK K
      have S4 := Lib.hid (S3.out.grown (by omega) (gb_set4 (World.grownBy.refl w3 _) _ _ _ _) (S3.out.wr.putR gb ⟨q.x, q.y + Y, q.w, G⟩))
      have R4 := Lib.hid (R3.out.far4 (b := bo) (o0 := oo + j * 4) (o1 := oo + j * 4 + 1) (o2 := oo + j * 4 + 2) (o3 := oo + j * 4 + 3) hg6 (.int .i64 q.x) (.int .i64 (q.y + Y)) (.int .i64 q.w) (.int .i64 G))
      have GB4 := Lib.hid (gb_set4 (o0 := oo + j * 4) (o1 := oo + j * 4 + 1) (o2 := oo + j * 4 + 2) (o3 := oo + j * 4 + 3) GB3.out (.int .i64 q.x) (.int .i64 (q.y + Y)) (.int .i64 q.w) (.int .i64 G))
      clear e0 c5 d0 f0 d1 f1 d2 f2 d3 f3 S3 R3 GB3
      dsimp only at S4
      generalize (((w3.setCell ⟨bo, oo + j * 4, none⟩ (.int .i64 q.x)).setCell ⟨bo, oo + j * 4 + 1, none⟩ (.int .i64 (q.y + Y))).setCell ⟨bo, oo + j * 4 + 2, none⟩ (.int .i64 q.w)).setCell ⟨bo, oo + j * 4 + 3, none⟩ (.int .i64 G) = w4 at S4 R4 GB4 ⊢
      have e0 := S4.out.t
      have c5 := (at9 (S4.out.tree (by omega)).2 hi).2.2.2.2.2.1
      rw [show zs.getD (9 * i + 5) 0 = p5 from hp5.out] at c5
      go_wp2
      go_roundw
      case rel =>
        refine ⟨k + 1, by omega, by go_num, by rw [hnx.out]; exact vint (by omega), Lib.hid ⟨GB4.out, R4.out, putR n ys1 j (lay zs n W H j), ?_, fun z hz hz' => (hys.out.2.1 z hz hz').put hz gb, fun z hz => ?_⟩⟩
        · rw [HKk.out]
          exact S4.out.wr
        · rcases Nat.lt_or_ge z k with h4 | h4
          · exact OkA.put (hys.out.2.2 z h4) (kdsL_at HV.out.par (show z < (kdsL zs n (i : Int)).length by rw [hm.out]; omega)).2.1 gb
          · obtain rfl : z = k := by omega
            rw [hj.out]
            exact OkA.here gb
      case measure => simp [intOf]; omega
    · obtain rfl : k = m := by omega
      go_wp2
      go_end0
      obtain ⟨ys1, h4, h5, h6⟩ := hS.out.2.2
      exact ⟨rfl, hS.out.1, ys1, h4, h5, fun z hz => h6 z (by rw [← hm.out]; exact hz)⟩
end Go.Proofs.Ytjaecgobgpfbdaa
