/-
  Segments read: the reading as one value; the law of ReadSegment.
-/
import Derived.Test.YtahffinjglmhhaaRdS
import Derived.Test.YtahffinjglmhhaaOpen
namespace Go.Proofs.Ytahffinjglmhhaa
open Go.RowKit
set_option linter.unusedVariables false
def zSegV : Value := .tuple #[.agg #[.int .i64 0, .int .i64 0, .int .i64 0, .int .i64 0, .int .i64 0, .int .i64 0, .int .i64 0, .int .i64 0, .bool false, .bool false, .int .i64 0, .int .i64 0, .string ⟨#[]⟩], .bool false]
def rsF (s : ByteArray) : Value := .tuple #[.agg #[.int .i64 (getV s 0 2), .int .i64 (getV s 2 2), .int .i64 (getV s 4 4), .int .i64 (getV s 8 4), .int .i64 (byt s 13 % 64), .int .i64 (getV s 14 2), .int .i64 (rsO s).m, .int .i64 (rsO s).s, .bool (rsO s).k, .bool (rsO s).st, .int .i64 (rsO s).v, .int .i64 (rsO s).y, .string (s.extract (rsN s).toNat s.size)], .bool true]
/-- What ReadSegment returns. -/
def rsV (s : ByteArray) (src dst : Int) : Value := if rsB s src dst then rsF s else zSegV
theorem rsV_no {s : ByteArray} {src dst : Int} (h : rsB s src dst = false) : zSegV = rsV s src dst := by rw [rsV, h]; rfl
theorem rsV_yes {s : ByteArray} {src dst : Int} (h : rsB s src dst = true) : rsF s = rsV s src dst := by rw [rsV, h]; rfl
theorem impl_ReadSegment (s : ByteArray) (src dst : Int) (w : World) (hs : s.size ≤ 1000000000) :
    Calls Try.prog 51 #[.string s, .int .i64 src, .int .i64 dst] w fun e w' => e = .returned (rsV s src dst) ∧ Below w.heap.size w w' := by
  by_cases h20 : 20 ≤ s.size
  · by_cases hn : 20 ≤ rsN s
    · by_cases hm : rsN s ≤ (s.size : Int)
      · cases hh : headOk src dst s.size
        · rw [← rsV_no (s := s) (src := src) (dst := dst) (by rw [rsB, rsB1, hh]; simp)]
          exact impl_RS_c s src dst w hs h20 hn hm hh
        · by_cases hz : sumOf (pseudo src dst s.size ++ s) = 0
          · have h1 : rsB1 s src dst = true := by rw [rsB1, hh, hz]; simp [h20, hn, hm]
            have hb : rsB s src dst = rsOk s := by rw [rsB, h1, Bool.true_and]
            refine impl_RS_z s src dst w hs h20 hn hm hh hz (rsV s src dst) (fun e => ?_) (fun e1 e2 => ?_) (fun e1 e2 => ?_)
            · refine (rsV_no ?_).symm
              rw [hb, rsOk]
              rw [roB] at e
              rw [e, Bool.false_and]
            · refine (rsV_no ?_).symm
              rw [hb, rsOk]
              show (_ && segOk _ _ _ _ _ _ (roO (s.extract 20 (rsN s).toNat)).m _ _ _ _ _) = false
              exact (congrArg (_ && ·) e2).trans (Bool.and_false _)
            · refine (rsV_yes ?_).symm
              rw [hb, rsOk]
              rw [roB] at e1
              rw [e1, Bool.true_and]
              exact e2
          · rw [← rsV_no (s := s) (src := src) (dst := dst) (by rw [rsB, rsB1, hh]; simp [hz])]
            exact impl_RS_d s src dst w hs h20 hn hm hh hz
      · rw [← rsV_no (s := s) (src := src) (dst := dst) (by rw [rsB, rsB1]; simp [hm])]
        exact impl_RS_b s src dst w hs h20 hn (by omega)
    · rw [← rsV_no (s := s) (src := src) (dst := dst) (by rw [rsB, rsB1]; simp [hn])]
      exact impl_RS_a s src dst w hs h20 (by omega)
  · rw [← rsV_no (s := s) (src := src) (dst := dst) (by rw [rsB, rsB1]; simp [h20])]
    exact impl_RS_s s src dst w (by omega)
theorem spec_ReadSegment (s : ByteArray) (src dst : Int) (w : World) (hs : s.size ≤ 1000000000) :
    Calls Try.prog 52 #[.string s, .int .i64 src, .int .i64 dst] w fun e w' => e = .returned (rsV s src dst) ∧ Below w.heap.size w w' := by
  by_cases h20 : 20 ≤ s.size
  · by_cases hn : 20 ≤ rsN s
    · by_cases hm : rsN s ≤ (s.size : Int)
      · cases hh : headOk src dst s.size
        · rw [← rsV_no (s := s) (src := src) (dst := dst) (by rw [rsB, rsB1, hh]; simp)]
          exact spec_RS_c s src dst w hs h20 hn hm hh
        · by_cases hz : sumOf (pseudo src dst s.size ++ s) = 0
          · have h1 : rsB1 s src dst = true := by rw [rsB1, hh, hz]; simp [h20, hn, hm]
            have hb : rsB s src dst = rsOk s := by rw [rsB, h1, Bool.true_and]
            refine spec_RS_z s src dst w hs h20 hn hm hh hz (rsV s src dst) (fun e => ?_) (fun e1 e2 => ?_) (fun e1 e2 => ?_)
            · refine (rsV_no ?_).symm
              rw [hb, rsOk]
              rw [roB] at e
              rw [e, Bool.false_and]
            · refine (rsV_no ?_).symm
              rw [hb, rsOk]
              show (_ && segOk _ _ _ _ _ _ (roO (s.extract 20 (rsN s).toNat)).m _ _ _ _ _) = false
              exact (congrArg (_ && ·) e2).trans (Bool.and_false _)
            · refine (rsV_yes ?_).symm
              rw [hb, rsOk]
              rw [roB] at e1
              rw [e1, Bool.true_and]
              exact e2
          · rw [← rsV_no (s := s) (src := src) (dst := dst) (by rw [rsB, rsB1, hh]; simp [hz])]
            exact spec_RS_d s src dst w hs h20 hn hm hh hz
      · rw [← rsV_no (s := s) (src := src) (dst := dst) (by rw [rsB, rsB1]; simp [hm])]
        exact spec_RS_b s src dst w hs h20 hn (by omega)
    · rw [← rsV_no (s := s) (src := src) (dst := dst) (by rw [rsB, rsB1]; simp [hn])]
      exact spec_RS_a s src dst w hs h20 (by omega)
  · rw [← rsV_no (s := s) (src := src) (dst := dst) (by rw [rsB, rsB1]; simp [h20])]
    exact spec_RS_s s src dst w (by omega)
end Go.Proofs.Ytahffinjglmhhaa
