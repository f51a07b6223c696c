/- A struct of nine integers that came in by value. -/
import Derived.Test.YtjaecgobgpfbdaaFO
import Derived.Lib.SmallJoins
namespace Go.Proofs.Ytjaecgobgpfbdaa
open Go.RowKit Go.ChangeShapes Go.WideShapes Go.Deep Go.Joins

theorem open_ints9 {H : Type} {enc : TypeId × Value → H} {P : Program} {w : World} {base : Nat} {spare : Nat → Bool} {held : Bool} {r : Reach} {b0 : Nat} {t : TypeId} {fs : Array Field} {v : Value} {d : DataW H} {p : List MemPlace}
    (hs : P.underlying t = some (.struct fs)) (hone : oneCellFields P fs = true) (hC : P.cellsOf t = 9) (hS : fs.size = 9) (hI : ∀ (j : Nat) (f : Field), fs[j]? = some f → P.underlying f.type = some (.int .i64))
    (hv : Value.okWide P w r b0 t v) (h : DataW.Trod enc P w base spare held t v d p) :
    ∃ b0 b1 b2 b3 b4 b5 b6 b7 b8 : Int, v = .agg #[.int .i64 b0, .int .i64 b1, .int .i64 b2, .int .i64 b3, .int .i64 b4, .int .i64 b5, .int .i64 b6, .int .i64 b7, .int .i64 b8] ∧
      (Lit.int .i64 b0).wf = true ∧ (Lit.int .i64 b1).wf = true ∧ (Lit.int .i64 b2).wf = true ∧ (Lit.int .i64 b3).wf = true ∧ (Lit.int .i64 b4).wf = true ∧ (Lit.int .i64 b5).wf = true ∧ (Lit.int .i64 b6).wf = true ∧ (Lit.int .i64 b7).wf = true ∧ (Lit.int .i64 b8).wf = true := by
  obtain ⟨cs, rfl, hsz⟩ := okWide_struct hs hv
  rw [hC] at hsz
  obtain ⟨fuel, hf⟩ := h
  obtain ⟨ys, n2, _, _, hlen, hyl, hg⟩ := DataW.trod_struct hs hf
  have key : ∀ j, j < 9 → ∃ a : Int, cs[j]? = some (.int .i64 a) ∧ (Lit.int .i64 a).wf = true := fun j hj => by
    have hjf : j < fs.size := by omega
    have hfj : fs[j]? = some fs[j] := by simp [hjf]
    obtain ⟨ho, hk⟩ := hone_of hone _ _ hfj
    have h3 := hg _ _ hfj
    rw [ho, hk] at h3
    have hj2 : j < ys.length := by omega
    rw [List.getElem?_eq_getElem hj2] at h3
    obtain ⟨a, ha, _, hw⟩ := DataW.trod_int (hI _ _ hfj) h3
    refine ⟨a, ?_, by first | exact hw | exact hw.1⟩
    have hjl : j < cs.toList.length := by simp; omega
    have e : (Value.cells (.agg cs)).toList = cs.toList := rfl
    first
      | rw [e] at ha
      | skip
    rw [List.drop_eq_getElem_cons hjl] at ha
    have ha2 : [cs.toList[j]] = [Value.int .i64 a] := ha
    injection ha2 with ha2
    rw [Array.getElem?_eq_getElem (by omega)]
    rw [← ha2]
    simp
  obtain ⟨b0, e0, w0⟩ := key 0 (by omega)
  obtain ⟨b1, e1, w1⟩ := key 1 (by omega)
  obtain ⟨b2, e2, w2⟩ := key 2 (by omega)
  obtain ⟨b3, e3, w3⟩ := key 3 (by omega)
  obtain ⟨b4, e4, w4⟩ := key 4 (by omega)
  obtain ⟨b5, e5, w5⟩ := key 5 (by omega)
  obtain ⟨b6, e6, w6⟩ := key 6 (by omega)
  obtain ⟨b7, e7, w7⟩ := key 7 (by omega)
  obtain ⟨b8, e8, w8⟩ := key 8 (by omega)
  refine ⟨b0, b1, b2, b3, b4, b5, b6, b7, b8, ?_, w0, w1, w2, w3, w4, w5, w6, w7, w8⟩
  congr 1
  refine Array.ext_getElem? fun i => ?_
  rcases i with _ | _ | _ | _ | _ | _ | _ | _ | _ | i
  · exact e0
  · exact e1
  · exact e2
  · exact e3
  · exact e4
  · exact e5
  · exact e6
  · exact e7
  · exact e8
  · rw [Array.getElem?_eq_none (by omega), Array.getElem?_eq_none (by simp)]
end Go.Proofs.Ytjaecgobgpfbdaa
