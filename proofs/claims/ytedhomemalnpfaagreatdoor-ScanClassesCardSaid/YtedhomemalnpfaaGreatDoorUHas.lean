/- The document's names of sets: what Has says (written by a program of this session, uhas.py). -/
import Derived.Test.YtedhomemalnpfaaGreatDoorUBas
import Derived.Test.YtedhomemalnpfaaGreatDoorVTCh
import Derived.KernelRfl
namespace Go.Proofs.YtedhomemalnpfaaGreatDoor.V
open Go Go.Ev Go.RowKit
set_option linter.unusedVariables false
set_option linter.unusedSimpArgs false
def inW (x a b : Int) : Bool := decide (a ≤ x) && decide (x ≤ b)
theorem within_E (x a b : Int) : E C 74 [.int .i64 x, .int .i64 a, .int .i64 b] = some [.bool (inW x a b)] := by
  apply o74
  unfold inW
  by_cases h : x ≥ a
  · rw [dT h, decide_eq_true (show a ≤ x from h)]; rfl
  · rw [dF h, decide_eq_false (show ¬ a ≤ x from h)]; rfl
theorem Names_E : E C 75 [] = some [.agg [.str (bs [97, 108, 110, 117, 109]), .str (bs [97, 108, 112, 104, 97]), .str (bs [97, 115, 99, 105, 105]), .str (bs [98, 108, 97, 110, 107]), .str (bs [99, 110, 116, 114, 108]), .str (bs [100, 105, 103, 105, 116]), .str (bs [103, 114, 97, 112, 104]), .str (bs [108, 111, 119, 101, 114]), .str (bs [112, 114, 105, 110, 116]), .str (bs [112, 117, 110, 99, 116]), .str (bs [115, 112, 97, 99, 101]), .str (bs [117, 112, 112, 101, 114]), .str (bs [119, 111, 114, 100]), .str (bs [120, 100, 105, 103, 105, 116])]] := by
  apply o75
  rfl
theorem HN1 (v0 : ByteArray) (v1 : Int) (v4 : Bool) (v5 : Bool) (v6 : Bool) (v7 : Bool) (v8 : Bool) (v9_0 : ByteArray) (v9_1 : ByteArray) (v9_2 : ByteArray) (v9_3 : ByteArray) (v9_4 : ByteArray) (v9_5 : ByteArray) (v9_6 : ByteArray) (v9_7 : ByteArray) (v9_8 : ByteArray) (v9_9 : ByteArray) (v9_10 : ByteArray) (v9_11 : ByteArray) (v9_12 : ByteArray) (v9_13 : ByteArray) : N57_1 v0 v1 v4 v5 v6 v7 v8 v9_0 v9_1 v9_2 v9_3 v9_4 v9_5 v9_6 v9_7 v9_8 v9_9 v9_10 v9_11 v9_12 v9_13 = N57_2 v0 v1 v4 v5 v6 v7 v8 v9_0 v9_1 v9_2 v9_3 v9_4 v9_5 v9_6 v9_7 v9_8 v9_9 v9_10 v9_11 v9_12 v9_13 (bif v6 then true else v7) := by
  unfold N57_1
  try simp only [within_E, Option.bind_some, rd0, datB]
  generalize (v6) = c
  cases c <;> rfl
theorem HN2 (v0 : ByteArray) (v1 : Int) (v4 : Bool) (v5 : Bool) (v6 : Bool) (v7 : Bool) (v8 : Bool) (v9_0 : ByteArray) (v9_1 : ByteArray) (v9_2 : ByteArray) (v9_3 : ByteArray) (v9_4 : ByteArray) (v9_5 : ByteArray) (v9_6 : ByteArray) (v9_7 : ByteArray) (v9_8 : ByteArray) (v9_9 : ByteArray) (v9_10 : ByteArray) (v9_11 : ByteArray) (v9_12 : ByteArray) (v9_13 : ByteArray) (v22 : Bool) : N57_2 v0 v1 v4 v5 v6 v7 v8 v9_0 v9_1 v9_2 v9_3 v9_4 v9_5 v9_6 v9_7 v9_8 v9_9 v9_10 v9_11 v9_12 v9_13 v22 = N57_3 v0 v1 v4 v5 v6 v7 v8 v9_0 v9_1 v9_2 v9_3 v9_4 v9_5 v9_6 v9_7 v9_8 v9_9 v9_10 v9_11 v9_12 v9_13 (bif v22 then true else v8) := by
  unfold N57_2
  try simp only [within_E, Option.bind_some, rd0, datB]
  generalize (v22) = c
  cases c <;> rfl
theorem HN3 (v0 : ByteArray) (v1 : Int) (v4 : Bool) (v5 : Bool) (v6 : Bool) (v7 : Bool) (v8 : Bool) (v9_0 : ByteArray) (v9_1 : ByteArray) (v9_2 : ByteArray) (v9_3 : ByteArray) (v9_4 : ByteArray) (v9_5 : ByteArray) (v9_6 : ByteArray) (v9_7 : ByteArray) (v9_8 : ByteArray) (v9_9 : ByteArray) (v9_10 : ByteArray) (v9_11 : ByteArray) (v9_12 : ByteArray) (v9_13 : ByteArray) (v25 : Bool) : N57_3 v0 v1 v4 v5 v6 v7 v8 v9_0 v9_1 v9_2 v9_3 v9_4 v9_5 v9_6 v9_7 v9_8 v9_9 v9_10 v9_11 v9_12 v9_13 v25 = N57_4 v0 v1 v4 v5 v6 v7 v8 v9_0 v9_1 v9_2 v9_3 v9_4 v9_5 v9_6 v9_7 v9_8 v9_9 v9_10 v9_11 v9_12 v9_13 v25 (bif v7 then true else v8) := by
  unfold N57_3
  try simp only [within_E, Option.bind_some, rd0, datB]
  generalize (v7) = c
  cases c <;> rfl
theorem HN4 (v0 : ByteArray) (v1 : Int) (v4 : Bool) (v5 : Bool) (v6 : Bool) (v7 : Bool) (v8 : Bool) (v9_0 : ByteArray) (v9_1 : ByteArray) (v9_2 : ByteArray) (v9_3 : ByteArray) (v9_4 : ByteArray) (v9_5 : ByteArray) (v9_6 : ByteArray) (v9_7 : ByteArray) (v9_8 : ByteArray) (v9_9 : ByteArray) (v9_10 : ByteArray) (v9_11 : ByteArray) (v9_12 : ByteArray) (v9_13 : ByteArray) (v25 : Bool) (v29 : Bool) : N57_4 v0 v1 v4 v5 v6 v7 v8 v9_0 v9_1 v9_2 v9_3 v9_4 v9_5 v9_6 v9_7 v9_8 v9_9 v9_10 v9_11 v9_12 v9_13 v25 v29 = N57_5 v0 v1 v4 v5 v6 v7 v8 v9_0 v9_1 v9_2 v9_3 v9_4 v9_5 v9_6 v9_7 v9_8 v9_9 v9_10 v9_11 v9_12 v9_13 v25 v29 (inW v1 0 127) (bif v1 == 9 then true else (v1 == 32)) := by
  unfold N57_4
  try simp only [within_E, Option.bind_some, rd0, datB]
  generalize (v1 == 9) = c
  cases c <;> rfl
theorem HN5 (v0 : ByteArray) (v1 : Int) (v4 : Bool) (v5 : Bool) (v6 : Bool) (v7 : Bool) (v8 : Bool) (v9_0 : ByteArray) (v9_1 : ByteArray) (v9_2 : ByteArray) (v9_3 : ByteArray) (v9_4 : ByteArray) (v9_5 : ByteArray) (v9_6 : ByteArray) (v9_7 : ByteArray) (v9_8 : ByteArray) (v9_9 : ByteArray) (v9_10 : ByteArray) (v9_11 : ByteArray) (v9_12 : ByteArray) (v9_13 : ByteArray) (v25 : Bool) (v29 : Bool) (v31 : Bool) (v37 : Bool) : N57_5 v0 v1 v4 v5 v6 v7 v8 v9_0 v9_1 v9_2 v9_3 v9_4 v9_5 v9_6 v9_7 v9_8 v9_9 v9_10 v9_11 v9_12 v9_13 v25 v29 v31 v37 = N57_6 v0 v1 v4 v5 v6 v7 v8 v9_0 v9_1 v9_2 v9_3 v9_4 v9_5 v9_6 v9_7 v9_8 v9_9 v9_10 v9_11 v9_12 v9_13 v25 v29 v31 v37 (bif (inW v1 0 31) then true else (v1 == 127)) := by
  unfold N57_5
  try simp only [within_E, Option.bind_some, rd0, datB]
  generalize ((inW v1 0 31)) = c
  cases c <;> rfl
theorem HN6 (v0 : ByteArray) (v1 : Int) (v4 : Bool) (v5 : Bool) (v6 : Bool) (v7 : Bool) (v8 : Bool) (v9_0 : ByteArray) (v9_1 : ByteArray) (v9_2 : ByteArray) (v9_3 : ByteArray) (v9_4 : ByteArray) (v9_5 : ByteArray) (v9_6 : ByteArray) (v9_7 : ByteArray) (v9_8 : ByteArray) (v9_9 : ByteArray) (v9_10 : ByteArray) (v9_11 : ByteArray) (v9_12 : ByteArray) (v9_13 : ByteArray) (v25 : Bool) (v29 : Bool) (v31 : Bool) (v37 : Bool) (v43 : Bool) : N57_6 v0 v1 v4 v5 v6 v7 v8 v9_0 v9_1 v9_2 v9_3 v9_4 v9_5 v9_6 v9_7 v9_8 v9_9 v9_10 v9_11 v9_12 v9_13 v25 v29 v31 v37 v43 = N57_7 v0 v1 v4 v5 v6 v7 v8 v9_0 v9_1 v9_2 v9_3 v9_4 v9_5 v9_6 v9_7 v9_8 v9_9 v9_10 v9_11 v9_12 v9_13 v25 v29 v31 v37 v43 v6 (inW v1 33 126) v8 (inW v1 32 126) (bif (inW v1 33 126) then (!v6) else false) := by
  unfold N57_6
  try simp only [within_E, Option.bind_some, rd0, datB]
  generalize ((inW v1 33 126)) = c
  cases c <;> rfl
theorem HN7 (v0 : ByteArray) (v1 : Int) (v4 : Bool) (v5 : Bool) (v6 : Bool) (v7 : Bool) (v8 : Bool) (v9_0 : ByteArray) (v9_1 : ByteArray) (v9_2 : ByteArray) (v9_3 : ByteArray) (v9_4 : ByteArray) (v9_5 : ByteArray) (v9_6 : ByteArray) (v9_7 : ByteArray) (v9_8 : ByteArray) (v9_9 : ByteArray) (v9_10 : ByteArray) (v9_11 : ByteArray) (v9_12 : ByteArray) (v9_13 : ByteArray) (v25 : Bool) (v29 : Bool) (v31 : Bool) (v37 : Bool) (v43 : Bool) (v44 : Bool) (v46 : Bool) (v47 : Bool) (v49 : Bool) (v55 : Bool) : N57_7 v0 v1 v4 v5 v6 v7 v8 v9_0 v9_1 v9_2 v9_3 v9_4 v9_5 v9_6 v9_7 v9_8 v9_9 v9_10 v9_11 v9_12 v9_13 v25 v29 v31 v37 v43 v44 v46 v47 v49 v55 = N57_8 v0 v1 v4 v5 v6 v7 v8 v9_0 v9_1 v9_2 v9_3 v9_4 v9_5 v9_6 v9_7 v9_8 v9_9 v9_10 v9_11 v9_12 v9_13 v25 v29 v31 v37 v43 v44 v46 v47 v49 (bif v55 then (!v7) else false) := by
  unfold N57_7
  try simp only [within_E, Option.bind_some, rd0, datB]
  generalize (v55) = c
  cases c <;> rfl
theorem HN8 (v0 : ByteArray) (v1 : Int) (v4 : Bool) (v5 : Bool) (v6 : Bool) (v7 : Bool) (v8 : Bool) (v9_0 : ByteArray) (v9_1 : ByteArray) (v9_2 : ByteArray) (v9_3 : ByteArray) (v9_4 : ByteArray) (v9_5 : ByteArray) (v9_6 : ByteArray) (v9_7 : ByteArray) (v9_8 : ByteArray) (v9_9 : ByteArray) (v9_10 : ByteArray) (v9_11 : ByteArray) (v9_12 : ByteArray) (v9_13 : ByteArray) (v25 : Bool) (v29 : Bool) (v31 : Bool) (v37 : Bool) (v43 : Bool) (v44 : Bool) (v46 : Bool) (v47 : Bool) (v49 : Bool) (v59 : Bool) : N57_8 v0 v1 v4 v5 v6 v7 v8 v9_0 v9_1 v9_2 v9_3 v9_4 v9_5 v9_6 v9_7 v9_8 v9_9 v9_10 v9_11 v9_12 v9_13 v25 v29 v31 v37 v43 v44 v46 v47 v49 v59 = N57_9 v0 v1 v4 v5 v6 v7 v8 v9_0 v9_1 v9_2 v9_3 v9_4 v9_5 v9_6 v9_7 v9_8 v9_9 v9_10 v9_11 v9_12 v9_13 v25 v29 v31 v37 v43 v44 v46 v47 v49 (bif v59 then (!v8) else false) := by
  unfold N57_8
  try simp only [within_E, Option.bind_some, rd0, datB]
  generalize (v59) = c
  cases c <;> rfl
theorem HN9 (v0 : ByteArray) (v1 : Int) (v4 : Bool) (v5 : Bool) (v6 : Bool) (v7 : Bool) (v8 : Bool) (v9_0 : ByteArray) (v9_1 : ByteArray) (v9_2 : ByteArray) (v9_3 : ByteArray) (v9_4 : ByteArray) (v9_5 : ByteArray) (v9_6 : ByteArray) (v9_7 : ByteArray) (v9_8 : ByteArray) (v9_9 : ByteArray) (v9_10 : ByteArray) (v9_11 : ByteArray) (v9_12 : ByteArray) (v9_13 : ByteArray) (v25 : Bool) (v29 : Bool) (v31 : Bool) (v37 : Bool) (v43 : Bool) (v44 : Bool) (v46 : Bool) (v47 : Bool) (v49 : Bool) (v63 : Bool) : N57_9 v0 v1 v4 v5 v6 v7 v8 v9_0 v9_1 v9_2 v9_3 v9_4 v9_5 v9_6 v9_7 v9_8 v9_9 v9_10 v9_11 v9_12 v9_13 v25 v29 v31 v37 v43 v44 v46 v47 v49 v63 = N57_10 v0 v1 v4 v5 v6 v7 v8 v9_0 v9_1 v9_2 v9_3 v9_4 v9_5 v9_6 v9_7 v9_8 v9_9 v9_10 v9_11 v9_12 v9_13 v25 v29 v31 v37 v43 v44 v46 v47 v49 v63 (bif (inW v1 9 13) then true else (v1 == 32)) := by
  unfold N57_9
  try simp only [within_E, Option.bind_some, rd0, datB]
  generalize ((inW v1 9 13)) = c
  cases c <;> rfl
theorem HN10 (v0 : ByteArray) (v1 : Int) (v4 : Bool) (v5 : Bool) (v6 : Bool) (v7 : Bool) (v8 : Bool) (v9_0 : ByteArray) (v9_1 : ByteArray) (v9_2 : ByteArray) (v9_3 : ByteArray) (v9_4 : ByteArray) (v9_5 : ByteArray) (v9_6 : ByteArray) (v9_7 : ByteArray) (v9_8 : ByteArray) (v9_9 : ByteArray) (v9_10 : ByteArray) (v9_11 : ByteArray) (v9_12 : ByteArray) (v9_13 : ByteArray) (v25 : Bool) (v29 : Bool) (v31 : Bool) (v37 : Bool) (v43 : Bool) (v44 : Bool) (v46 : Bool) (v47 : Bool) (v49 : Bool) (v63 : Bool) (v69 : Bool) : N57_10 v0 v1 v4 v5 v6 v7 v8 v9_0 v9_1 v9_2 v9_3 v9_4 v9_5 v9_6 v9_7 v9_8 v9_9 v9_10 v9_11 v9_12 v9_13 v25 v29 v31 v37 v43 v44 v46 v47 v49 v63 v69 = N57_11 v0 v1 v4 v5 v6 v7 v8 v9_0 v9_1 v9_2 v9_3 v9_4 v9_5 v9_6 v9_7 v9_8 v9_9 v9_10 v9_11 v9_12 v9_13 v25 v29 v31 v37 v43 v44 v46 v47 v49 v63 v69 v7 (bif v6 then true else v7) := by
  unfold N57_10
  try simp only [within_E, Option.bind_some, rd0, datB]
  generalize (v6) = c
  cases c <;> rfl
theorem HN11 (v0 : ByteArray) (v1 : Int) (v4 : Bool) (v5 : Bool) (v6 : Bool) (v7 : Bool) (v8 : Bool) (v9_0 : ByteArray) (v9_1 : ByteArray) (v9_2 : ByteArray) (v9_3 : ByteArray) (v9_4 : ByteArray) (v9_5 : ByteArray) (v9_6 : ByteArray) (v9_7 : ByteArray) (v9_8 : ByteArray) (v9_9 : ByteArray) (v9_10 : ByteArray) (v9_11 : ByteArray) (v9_12 : ByteArray) (v9_13 : ByteArray) (v25 : Bool) (v29 : Bool) (v31 : Bool) (v37 : Bool) (v43 : Bool) (v44 : Bool) (v46 : Bool) (v47 : Bool) (v49 : Bool) (v63 : Bool) (v69 : Bool) (v70 : Bool) (v74 : Bool) : N57_11 v0 v1 v4 v5 v6 v7 v8 v9_0 v9_1 v9_2 v9_3 v9_4 v9_5 v9_6 v9_7 v9_8 v9_9 v9_10 v9_11 v9_12 v9_13 v25 v29 v31 v37 v43 v44 v46 v47 v49 v63 v69 v70 v74 = N57_12 v0 v1 v4 v5 v6 v7 v8 v9_0 v9_1 v9_2 v9_3 v9_4 v9_5 v9_6 v9_7 v9_8 v9_9 v9_10 v9_11 v9_12 v9_13 v25 v29 v31 v37 v43 v44 v46 v47 v49 v63 v69 v70 (bif v74 then true else v8) := by
  unfold N57_11
  try simp only [within_E, Option.bind_some, rd0, datB]
  generalize (v74) = c
  cases c <;> rfl
theorem HN12 (v0 : ByteArray) (v1 : Int) (v4 : Bool) (v5 : Bool) (v6 : Bool) (v7 : Bool) (v8 : Bool) (v9_0 : ByteArray) (v9_1 : ByteArray) (v9_2 : ByteArray) (v9_3 : ByteArray) (v9_4 : ByteArray) (v9_5 : ByteArray) (v9_6 : ByteArray) (v9_7 : ByteArray) (v9_8 : ByteArray) (v9_9 : ByteArray) (v9_10 : ByteArray) (v9_11 : ByteArray) (v9_12 : ByteArray) (v9_13 : ByteArray) (v25 : Bool) (v29 : Bool) (v31 : Bool) (v37 : Bool) (v43 : Bool) (v44 : Bool) (v46 : Bool) (v47 : Bool) (v49 : Bool) (v63 : Bool) (v69 : Bool) (v70 : Bool) (v77 : Bool) : N57_12 v0 v1 v4 v5 v6 v7 v8 v9_0 v9_1 v9_2 v9_3 v9_4 v9_5 v9_6 v9_7 v9_8 v9_9 v9_10 v9_11 v9_12 v9_13 v25 v29 v31 v37 v43 v44 v46 v47 v49 v63 v69 v70 v77 = N57_13 v0 v1 v4 v5 v6 v7 v8 v9_0 v9_1 v9_2 v9_3 v9_4 v9_5 v9_6 v9_7 v9_8 v9_9 v9_10 v9_11 v9_12 v9_13 v25 v29 v31 v37 v43 v44 v46 v47 v49 v63 v69 v70 (bif v77 then true else (v1 == 95)) := by
  unfold N57_12
  try simp only [within_E, Option.bind_some, rd0, datB]
  generalize (v77) = c
  cases c <;> rfl
theorem HN13 (v0 : ByteArray) (v1 : Int) (v4 : Bool) (v5 : Bool) (v6 : Bool) (v7 : Bool) (v8 : Bool) (v9_0 : ByteArray) (v9_1 : ByteArray) (v9_2 : ByteArray) (v9_3 : ByteArray) (v9_4 : ByteArray) (v9_5 : ByteArray) (v9_6 : ByteArray) (v9_7 : ByteArray) (v9_8 : ByteArray) (v9_9 : ByteArray) (v9_10 : ByteArray) (v9_11 : ByteArray) (v9_12 : ByteArray) (v9_13 : ByteArray) (v25 : Bool) (v29 : Bool) (v31 : Bool) (v37 : Bool) (v43 : Bool) (v44 : Bool) (v46 : Bool) (v47 : Bool) (v49 : Bool) (v63 : Bool) (v69 : Bool) (v70 : Bool) (v81 : Bool) : N57_13 v0 v1 v4 v5 v6 v7 v8 v9_0 v9_1 v9_2 v9_3 v9_4 v9_5 v9_6 v9_7 v9_8 v9_9 v9_10 v9_11 v9_12 v9_13 v25 v29 v31 v37 v43 v44 v46 v47 v49 v63 v69 v70 v81 = N57_14 v0 v1 v4 v5 v6 v7 v8 v9_0 v9_1 v9_2 v9_3 v9_4 v9_5 v9_6 v9_7 v9_8 v9_9 v9_10 v9_11 v9_12 v9_13 v25 v29 v31 v37 v43 v44 v46 v47 v49 v63 v69 v70 v81 (bif v6 then true else (inW v1 65 70)) := by
  unfold N57_13
  try simp only [within_E, Option.bind_some, rd0, datB]
  generalize (v6) = c
  cases c <;> rfl
theorem HN14 (v0 : ByteArray) (v1 : Int) (v4 : Bool) (v5 : Bool) (v6 : Bool) (v7 : Bool) (v8 : Bool) (v9_0 : ByteArray) (v9_1 : ByteArray) (v9_2 : ByteArray) (v9_3 : ByteArray) (v9_4 : ByteArray) (v9_5 : ByteArray) (v9_6 : ByteArray) (v9_7 : ByteArray) (v9_8 : ByteArray) (v9_9 : ByteArray) (v9_10 : ByteArray) (v9_11 : ByteArray) (v9_12 : ByteArray) (v9_13 : ByteArray) (v25 : Bool) (v29 : Bool) (v31 : Bool) (v37 : Bool) (v43 : Bool) (v44 : Bool) (v46 : Bool) (v47 : Bool) (v49 : Bool) (v63 : Bool) (v69 : Bool) (v70 : Bool) (v81 : Bool) (v86 : Bool) : N57_14 v0 v1 v4 v5 v6 v7 v8 v9_0 v9_1 v9_2 v9_3 v9_4 v9_5 v9_6 v9_7 v9_8 v9_9 v9_10 v9_11 v9_12 v9_13 v25 v29 v31 v37 v43 v44 v46 v47 v49 v63 v69 v70 v81 v86 = M57_15 v0 v1 v4 v5 v6 v7 v8 v9_0 v9_1 v9_2 v9_3 v9_4 v9_5 v9_6 v9_7 v9_8 v9_9 v9_10 v9_11 v9_12 v9_13 v25 v29 v31 v37 v43 v44 v46 v47 v49 v63 v69 v70 v81 (bif v86 then true else (inW v1 97 102)) 0 := by
  unfold N57_14
  try simp only [within_E, Option.bind_some, rd0, datB]
  generalize (v86) = c
  cases c <;> rfl
/-- The first of some names. -/
def pickK (s : ByteArray) : List (List UInt8 × Bool) → List Dat
  | [] => [.bool false, .bool false]
  | p :: l => bif (bs p.1).toList == s.toList then [.bool p.2, .bool true] else pickK s l
theorem HL14 (v0 : ByteArray) (v1 : Int) (v4 : Bool) (v5 : Bool) (v6 : Bool) (v7 : Bool) (v8 : Bool) (v10_0 : Bool) (v10_1 : Bool) (v10_2 : Bool) (v10_3 : Bool) (v10_4 : Bool) (v10_5 : Bool) (v10_6 : Bool) (v10_7 : Bool) (v10_8 : Bool) (v10_9 : Bool) (v10_10 : Bool) (v10_11 : Bool) (v10_12 : Bool) (v10_13 : Bool) : M57_16 v0 v1 v4 v5 v6 v7 v8 (bs [97, 108, 110, 117, 109]) (bs [97, 108, 112, 104, 97]) (bs [97, 115, 99, 105, 105]) (bs [98, 108, 97, 110, 107]) (bs [99, 110, 116, 114, 108]) (bs [100, 105, 103, 105, 116]) (bs [103, 114, 97, 112, 104]) (bs [108, 111, 119, 101, 114]) (bs [112, 114, 105, 110, 116]) (bs [112, 117, 110, 99, 116]) (bs [115, 112, 97, 99, 101]) (bs [117, 112, 112, 101, 114]) (bs [119, 111, 114, 100]) (bs [120, 100, 105, 103, 105, 116]) v10_0 v10_1 v10_2 v10_3 v10_4 v10_5 v10_6 v10_7 v10_8 v10_9 v10_10 v10_11 v10_12 v10_13 14 = some (pickK v0 []) := by
  apply M57_16_of
  rw [dF (by decide)]
  rfl
theorem HL13 (v0 : ByteArray) (v1 : Int) (v4 : Bool) (v5 : Bool) (v6 : Bool) (v7 : Bool) (v8 : Bool) (v10_0 : Bool) (v10_1 : Bool) (v10_2 : Bool) (v10_3 : Bool) (v10_4 : Bool) (v10_5 : Bool) (v10_6 : Bool) (v10_7 : Bool) (v10_8 : Bool) (v10_9 : Bool) (v10_10 : Bool) (v10_11 : Bool) (v10_12 : Bool) (v10_13 : Bool) : M57_16 v0 v1 v4 v5 v6 v7 v8 (bs [97, 108, 110, 117, 109]) (bs [97, 108, 112, 104, 97]) (bs [97, 115, 99, 105, 105]) (bs [98, 108, 97, 110, 107]) (bs [99, 110, 116, 114, 108]) (bs [100, 105, 103, 105, 116]) (bs [103, 114, 97, 112, 104]) (bs [108, 111, 119, 101, 114]) (bs [112, 114, 105, 110, 116]) (bs [112, 117, 110, 99, 116]) (bs [115, 112, 97, 99, 101]) (bs [117, 112, 112, 101, 114]) (bs [119, 111, 114, 100]) (bs [120, 100, 105, 103, 105, 116]) v10_0 v10_1 v10_2 v10_3 v10_4 v10_5 v10_6 v10_7 v10_8 v10_9 v10_10 v10_11 v10_12 v10_13 13 = some (pickK v0 [([120, 100, 105, 103, 105, 116], v10_13)]) := by
  apply M57_16_of
  rw [dT (by decide), dT (by decide), dT (by decide), dT (by decide)]
  cases h : ((bs [120, 100, 105, 103, 105, 116]).toList == v0.toList) with
  | true =>
    refine (cT h).trans ?_
    rw [dT (by decide), dT (by decide), dT (by show (13 : Nat) < 14; decide)]
    unfold pickK
    rw [cT h]
    rfl
  | false =>
    refine (cF h).trans ?_
    rw [show IntKind.i64.wrap (13 + 1) = 14 from by decide, HL14 _ _ _ _ _ _ _ _ _ _ _ _ _ _ _ _ _ _ _ _ _]
    conv => rhs; unfold pickK
    rw [cF h]
theorem HL12 (v0 : ByteArray) (v1 : Int) (v4 : Bool) (v5 : Bool) (v6 : Bool) (v7 : Bool) (v8 : Bool) (v10_0 : Bool) (v10_1 : Bool) (v10_2 : Bool) (v10_3 : Bool) (v10_4 : Bool) (v10_5 : Bool) (v10_6 : Bool) (v10_7 : Bool) (v10_8 : Bool) (v10_9 : Bool) (v10_10 : Bool) (v10_11 : Bool) (v10_12 : Bool) (v10_13 : Bool) : M57_16 v0 v1 v4 v5 v6 v7 v8 (bs [97, 108, 110, 117, 109]) (bs [97, 108, 112, 104, 97]) (bs [97, 115, 99, 105, 105]) (bs [98, 108, 97, 110, 107]) (bs [99, 110, 116, 114, 108]) (bs [100, 105, 103, 105, 116]) (bs [103, 114, 97, 112, 104]) (bs [108, 111, 119, 101, 114]) (bs [112, 114, 105, 110, 116]) (bs [112, 117, 110, 99, 116]) (bs [115, 112, 97, 99, 101]) (bs [117, 112, 112, 101, 114]) (bs [119, 111, 114, 100]) (bs [120, 100, 105, 103, 105, 116]) v10_0 v10_1 v10_2 v10_3 v10_4 v10_5 v10_6 v10_7 v10_8 v10_9 v10_10 v10_11 v10_12 v10_13 12 = some (pickK v0 [([119, 111, 114, 100], v10_12), ([120, 100, 105, 103, 105, 116], v10_13)]) := by
  apply M57_16_of
  rw [dT (by decide), dT (by decide), dT (by decide), dT (by decide)]
  cases h : ((bs [119, 111, 114, 100]).toList == v0.toList) with
  | true =>
    refine (cT h).trans ?_
    rw [dT (by decide), dT (by decide), dT (by show (12 : Nat) < 14; decide)]
    unfold pickK
    rw [cT h]
    rfl
  | false =>
    refine (cF h).trans ?_
    rw [show IntKind.i64.wrap (12 + 1) = 13 from by decide, HL13 _ _ _ _ _ _ _ _ _ _ _ _ _ _ _ _ _ _ _ _ _]
    conv => rhs; unfold pickK
    rw [cF h]
theorem HL11 (v0 : ByteArray) (v1 : Int) (v4 : Bool) (v5 : Bool) (v6 : Bool) (v7 : Bool) (v8 : Bool) (v10_0 : Bool) (v10_1 : Bool) (v10_2 : Bool) (v10_3 : Bool) (v10_4 : Bool) (v10_5 : Bool) (v10_6 : Bool) (v10_7 : Bool) (v10_8 : Bool) (v10_9 : Bool) (v10_10 : Bool) (v10_11 : Bool) (v10_12 : Bool) (v10_13 : Bool) : M57_16 v0 v1 v4 v5 v6 v7 v8 (bs [97, 108, 110, 117, 109]) (bs [97, 108, 112, 104, 97]) (bs [97, 115, 99, 105, 105]) (bs [98, 108, 97, 110, 107]) (bs [99, 110, 116, 114, 108]) (bs [100, 105, 103, 105, 116]) (bs [103, 114, 97, 112, 104]) (bs [108, 111, 119, 101, 114]) (bs [112, 114, 105, 110, 116]) (bs [112, 117, 110, 99, 116]) (bs [115, 112, 97, 99, 101]) (bs [117, 112, 112, 101, 114]) (bs [119, 111, 114, 100]) (bs [120, 100, 105, 103, 105, 116]) v10_0 v10_1 v10_2 v10_3 v10_4 v10_5 v10_6 v10_7 v10_8 v10_9 v10_10 v10_11 v10_12 v10_13 11 = some (pickK v0 [([117, 112, 112, 101, 114], v10_11), ([119, 111, 114, 100], v10_12), ([120, 100, 105, 103, 105, 116], v10_13)]) := by
  apply M57_16_of
  rw [dT (by decide), dT (by decide), dT (by decide), dT (by decide)]
  cases h : ((bs [117, 112, 112, 101, 114]).toList == v0.toList) with
  | true =>
    refine (cT h).trans ?_
    rw [dT (by decide), dT (by decide), dT (by show (11 : Nat) < 14; decide)]
    unfold pickK
    rw [cT h]
    rfl
  | false =>
    refine (cF h).trans ?_
    rw [show IntKind.i64.wrap (11 + 1) = 12 from by decide, HL12 _ _ _ _ _ _ _ _ _ _ _ _ _ _ _ _ _ _ _ _ _]
    conv => rhs; unfold pickK
    rw [cF h]
theorem HL10 (v0 : ByteArray) (v1 : Int) (v4 : Bool) (v5 : Bool) (v6 : Bool) (v7 : Bool) (v8 : Bool) (v10_0 : Bool) (v10_1 : Bool) (v10_2 : Bool) (v10_3 : Bool) (v10_4 : Bool) (v10_5 : Bool) (v10_6 : Bool) (v10_7 : Bool) (v10_8 : Bool) (v10_9 : Bool) (v10_10 : Bool) (v10_11 : Bool) (v10_12 : Bool) (v10_13 : Bool) : M57_16 v0 v1 v4 v5 v6 v7 v8 (bs [97, 108, 110, 117, 109]) (bs [97, 108, 112, 104, 97]) (bs [97, 115, 99, 105, 105]) (bs [98, 108, 97, 110, 107]) (bs [99, 110, 116, 114, 108]) (bs [100, 105, 103, 105, 116]) (bs [103, 114, 97, 112, 104]) (bs [108, 111, 119, 101, 114]) (bs [112, 114, 105, 110, 116]) (bs [112, 117, 110, 99, 116]) (bs [115, 112, 97, 99, 101]) (bs [117, 112, 112, 101, 114]) (bs [119, 111, 114, 100]) (bs [120, 100, 105, 103, 105, 116]) v10_0 v10_1 v10_2 v10_3 v10_4 v10_5 v10_6 v10_7 v10_8 v10_9 v10_10 v10_11 v10_12 v10_13 10 = some (pickK v0 [([115, 112, 97, 99, 101], v10_10), ([117, 112, 112, 101, 114], v10_11), ([119, 111, 114, 100], v10_12), ([120, 100, 105, 103, 105, 116], v10_13)]) := by
  apply M57_16_of
  rw [dT (by decide), dT (by decide), dT (by decide), dT (by decide)]
  cases h : ((bs [115, 112, 97, 99, 101]).toList == v0.toList) with
  | true =>
    refine (cT h).trans ?_
    rw [dT (by decide), dT (by decide), dT (by show (10 : Nat) < 14; decide)]
    unfold pickK
    rw [cT h]
    rfl
  | false =>
    refine (cF h).trans ?_
    rw [show IntKind.i64.wrap (10 + 1) = 11 from by decide, HL11 _ _ _ _ _ _ _ _ _ _ _ _ _ _ _ _ _ _ _ _ _]
    conv => rhs; unfold pickK
    rw [cF h]
theorem HL9 (v0 : ByteArray) (v1 : Int) (v4 : Bool) (v5 : Bool) (v6 : Bool) (v7 : Bool) (v8 : Bool) (v10_0 : Bool) (v10_1 : Bool) (v10_2 : Bool) (v10_3 : Bool) (v10_4 : Bool) (v10_5 : Bool) (v10_6 : Bool) (v10_7 : Bool) (v10_8 : Bool) (v10_9 : Bool) (v10_10 : Bool) (v10_11 : Bool) (v10_12 : Bool) (v10_13 : Bool) : M57_16 v0 v1 v4 v5 v6 v7 v8 (bs [97, 108, 110, 117, 109]) (bs [97, 108, 112, 104, 97]) (bs [97, 115, 99, 105, 105]) (bs [98, 108, 97, 110, 107]) (bs [99, 110, 116, 114, 108]) (bs [100, 105, 103, 105, 116]) (bs [103, 114, 97, 112, 104]) (bs [108, 111, 119, 101, 114]) (bs [112, 114, 105, 110, 116]) (bs [112, 117, 110, 99, 116]) (bs [115, 112, 97, 99, 101]) (bs [117, 112, 112, 101, 114]) (bs [119, 111, 114, 100]) (bs [120, 100, 105, 103, 105, 116]) v10_0 v10_1 v10_2 v10_3 v10_4 v10_5 v10_6 v10_7 v10_8 v10_9 v10_10 v10_11 v10_12 v10_13 9 = some (pickK v0 [([112, 117, 110, 99, 116], v10_9), ([115, 112, 97, 99, 101], v10_10), ([117, 112, 112, 101, 114], v10_11), ([119, 111, 114, 100], v10_12), ([120, 100, 105, 103, 105, 116], v10_13)]) := by
  apply M57_16_of
  rw [dT (by decide), dT (by decide), dT (by decide), dT (by decide)]
  cases h : ((bs [112, 117, 110, 99, 116]).toList == v0.toList) with
  | true =>
    refine (cT h).trans ?_
    rw [dT (by decide), dT (by decide), dT (by show (9 : Nat) < 14; decide)]
    unfold pickK
    rw [cT h]
    rfl
  | false =>
    refine (cF h).trans ?_
    rw [show IntKind.i64.wrap (9 + 1) = 10 from by decide, HL10 _ _ _ _ _ _ _ _ _ _ _ _ _ _ _ _ _ _ _ _ _]
    conv => rhs; unfold pickK
    rw [cF h]
theorem HL8 (v0 : ByteArray) (v1 : Int) (v4 : Bool) (v5 : Bool) (v6 : Bool) (v7 : Bool) (v8 : Bool) (v10_0 : Bool) (v10_1 : Bool) (v10_2 : Bool) (v10_3 : Bool) (v10_4 : Bool) (v10_5 : Bool) (v10_6 : Bool) (v10_7 : Bool) (v10_8 : Bool) (v10_9 : Bool) (v10_10 : Bool) (v10_11 : Bool) (v10_12 : Bool) (v10_13 : Bool) : M57_16 v0 v1 v4 v5 v6 v7 v8 (bs [97, 108, 110, 117, 109]) (bs [97, 108, 112, 104, 97]) (bs [97, 115, 99, 105, 105]) (bs [98, 108, 97, 110, 107]) (bs [99, 110, 116, 114, 108]) (bs [100, 105, 103, 105, 116]) (bs [103, 114, 97, 112, 104]) (bs [108, 111, 119, 101, 114]) (bs [112, 114, 105, 110, 116]) (bs [112, 117, 110, 99, 116]) (bs [115, 112, 97, 99, 101]) (bs [117, 112, 112, 101, 114]) (bs [119, 111, 114, 100]) (bs [120, 100, 105, 103, 105, 116]) v10_0 v10_1 v10_2 v10_3 v10_4 v10_5 v10_6 v10_7 v10_8 v10_9 v10_10 v10_11 v10_12 v10_13 8 = some (pickK v0 [([112, 114, 105, 110, 116], v10_8), ([112, 117, 110, 99, 116], v10_9), ([115, 112, 97, 99, 101], v10_10), ([117, 112, 112, 101, 114], v10_11), ([119, 111, 114, 100], v10_12), ([120, 100, 105, 103, 105, 116], v10_13)]) := by
  apply M57_16_of
  rw [dT (by decide), dT (by decide), dT (by decide), dT (by decide)]
  cases h : ((bs [112, 114, 105, 110, 116]).toList == v0.toList) with
  | true =>
    refine (cT h).trans ?_
    rw [dT (by decide), dT (by decide), dT (by show (8 : Nat) < 14; decide)]
    unfold pickK
    rw [cT h]
    rfl
  | false =>
    refine (cF h).trans ?_
    rw [show IntKind.i64.wrap (8 + 1) = 9 from by decide, HL9 _ _ _ _ _ _ _ _ _ _ _ _ _ _ _ _ _ _ _ _ _]
    conv => rhs; unfold pickK
    rw [cF h]
theorem HL7 (v0 : ByteArray) (v1 : Int) (v4 : Bool) (v5 : Bool) (v6 : Bool) (v7 : Bool) (v8 : Bool) (v10_0 : Bool) (v10_1 : Bool) (v10_2 : Bool) (v10_3 : Bool) (v10_4 : Bool) (v10_5 : Bool) (v10_6 : Bool) (v10_7 : Bool) (v10_8 : Bool) (v10_9 : Bool) (v10_10 : Bool) (v10_11 : Bool) (v10_12 : Bool) (v10_13 : Bool) : M57_16 v0 v1 v4 v5 v6 v7 v8 (bs [97, 108, 110, 117, 109]) (bs [97, 108, 112, 104, 97]) (bs [97, 115, 99, 105, 105]) (bs [98, 108, 97, 110, 107]) (bs [99, 110, 116, 114, 108]) (bs [100, 105, 103, 105, 116]) (bs [103, 114, 97, 112, 104]) (bs [108, 111, 119, 101, 114]) (bs [112, 114, 105, 110, 116]) (bs [112, 117, 110, 99, 116]) (bs [115, 112, 97, 99, 101]) (bs [117, 112, 112, 101, 114]) (bs [119, 111, 114, 100]) (bs [120, 100, 105, 103, 105, 116]) v10_0 v10_1 v10_2 v10_3 v10_4 v10_5 v10_6 v10_7 v10_8 v10_9 v10_10 v10_11 v10_12 v10_13 7 = some (pickK v0 [([108, 111, 119, 101, 114], v10_7), ([112, 114, 105, 110, 116], v10_8), ([112, 117, 110, 99, 116], v10_9), ([115, 112, 97, 99, 101], v10_10), ([117, 112, 112, 101, 114], v10_11), ([119, 111, 114, 100], v10_12), ([120, 100, 105, 103, 105, 116], v10_13)]) := by
  apply M57_16_of
  rw [dT (by decide), dT (by decide), dT (by decide), dT (by decide)]
  cases h : ((bs [108, 111, 119, 101, 114]).toList == v0.toList) with
  | true =>
    refine (cT h).trans ?_
    rw [dT (by decide), dT (by decide), dT (by show (7 : Nat) < 14; decide)]
    unfold pickK
    rw [cT h]
    rfl
  | false =>
    refine (cF h).trans ?_
    rw [show IntKind.i64.wrap (7 + 1) = 8 from by decide, HL8 _ _ _ _ _ _ _ _ _ _ _ _ _ _ _ _ _ _ _ _ _]
    conv => rhs; unfold pickK
    rw [cF h]
theorem HL6 (v0 : ByteArray) (v1 : Int) (v4 : Bool) (v5 : Bool) (v6 : Bool) (v7 : Bool) (v8 : Bool) (v10_0 : Bool) (v10_1 : Bool) (v10_2 : Bool) (v10_3 : Bool) (v10_4 : Bool) (v10_5 : Bool) (v10_6 : Bool) (v10_7 : Bool) (v10_8 : Bool) (v10_9 : Bool) (v10_10 : Bool) (v10_11 : Bool) (v10_12 : Bool) (v10_13 : Bool) : M57_16 v0 v1 v4 v5 v6 v7 v8 (bs [97, 108, 110, 117, 109]) (bs [97, 108, 112, 104, 97]) (bs [97, 115, 99, 105, 105]) (bs [98, 108, 97, 110, 107]) (bs [99, 110, 116, 114, 108]) (bs [100, 105, 103, 105, 116]) (bs [103, 114, 97, 112, 104]) (bs [108, 111, 119, 101, 114]) (bs [112, 114, 105, 110, 116]) (bs [112, 117, 110, 99, 116]) (bs [115, 112, 97, 99, 101]) (bs [117, 112, 112, 101, 114]) (bs [119, 111, 114, 100]) (bs [120, 100, 105, 103, 105, 116]) v10_0 v10_1 v10_2 v10_3 v10_4 v10_5 v10_6 v10_7 v10_8 v10_9 v10_10 v10_11 v10_12 v10_13 6 = some (pickK v0 [([103, 114, 97, 112, 104], v10_6), ([108, 111, 119, 101, 114], v10_7), ([112, 114, 105, 110, 116], v10_8), ([112, 117, 110, 99, 116], v10_9), ([115, 112, 97, 99, 101], v10_10), ([117, 112, 112, 101, 114], v10_11), ([119, 111, 114, 100], v10_12), ([120, 100, 105, 103, 105, 116], v10_13)]) := by
  apply M57_16_of
  rw [dT (by decide), dT (by decide), dT (by decide), dT (by decide)]
  cases h : ((bs [103, 114, 97, 112, 104]).toList == v0.toList) with
  | true =>
    refine (cT h).trans ?_
    rw [dT (by decide), dT (by decide), dT (by show (6 : Nat) < 14; decide)]
    unfold pickK
    rw [cT h]
    rfl
  | false =>
    refine (cF h).trans ?_
    rw [show IntKind.i64.wrap (6 + 1) = 7 from by decide, HL7 _ _ _ _ _ _ _ _ _ _ _ _ _ _ _ _ _ _ _ _ _]
    conv => rhs; unfold pickK
    rw [cF h]
theorem HL5 (v0 : ByteArray) (v1 : Int) (v4 : Bool) (v5 : Bool) (v6 : Bool) (v7 : Bool) (v8 : Bool) (v10_0 : Bool) (v10_1 : Bool) (v10_2 : Bool) (v10_3 : Bool) (v10_4 : Bool) (v10_5 : Bool) (v10_6 : Bool) (v10_7 : Bool) (v10_8 : Bool) (v10_9 : Bool) (v10_10 : Bool) (v10_11 : Bool) (v10_12 : Bool) (v10_13 : Bool) : M57_16 v0 v1 v4 v5 v6 v7 v8 (bs [97, 108, 110, 117, 109]) (bs [97, 108, 112, 104, 97]) (bs [97, 115, 99, 105, 105]) (bs [98, 108, 97, 110, 107]) (bs [99, 110, 116, 114, 108]) (bs [100, 105, 103, 105, 116]) (bs [103, 114, 97, 112, 104]) (bs [108, 111, 119, 101, 114]) (bs [112, 114, 105, 110, 116]) (bs [112, 117, 110, 99, 116]) (bs [115, 112, 97, 99, 101]) (bs [117, 112, 112, 101, 114]) (bs [119, 111, 114, 100]) (bs [120, 100, 105, 103, 105, 116]) v10_0 v10_1 v10_2 v10_3 v10_4 v10_5 v10_6 v10_7 v10_8 v10_9 v10_10 v10_11 v10_12 v10_13 5 = some (pickK v0 [([100, 105, 103, 105, 116], v10_5), ([103, 114, 97, 112, 104], v10_6), ([108, 111, 119, 101, 114], v10_7), ([112, 114, 105, 110, 116], v10_8), ([112, 117, 110, 99, 116], v10_9), ([115, 112, 97, 99, 101], v10_10), ([117, 112, 112, 101, 114], v10_11), ([119, 111, 114, 100], v10_12), ([120, 100, 105, 103, 105, 116], v10_13)]) := by
  apply M57_16_of
  rw [dT (by decide), dT (by decide), dT (by decide), dT (by decide)]
  cases h : ((bs [100, 105, 103, 105, 116]).toList == v0.toList) with
  | true =>
    refine (cT h).trans ?_
    rw [dT (by decide), dT (by decide), dT (by show (5 : Nat) < 14; decide)]
    unfold pickK
    rw [cT h]
    rfl
  | false =>
    refine (cF h).trans ?_
    rw [show IntKind.i64.wrap (5 + 1) = 6 from by decide, HL6 _ _ _ _ _ _ _ _ _ _ _ _ _ _ _ _ _ _ _ _ _]
    conv => rhs; unfold pickK
    rw [cF h]
theorem HL4 (v0 : ByteArray) (v1 : Int) (v4 : Bool) (v5 : Bool) (v6 : Bool) (v7 : Bool) (v8 : Bool) (v10_0 : Bool) (v10_1 : Bool) (v10_2 : Bool) (v10_3 : Bool) (v10_4 : Bool) (v10_5 : Bool) (v10_6 : Bool) (v10_7 : Bool) (v10_8 : Bool) (v10_9 : Bool) (v10_10 : Bool) (v10_11 : Bool) (v10_12 : Bool) (v10_13 : Bool) : M57_16 v0 v1 v4 v5 v6 v7 v8 (bs [97, 108, 110, 117, 109]) (bs [97, 108, 112, 104, 97]) (bs [97, 115, 99, 105, 105]) (bs [98, 108, 97, 110, 107]) (bs [99, 110, 116, 114, 108]) (bs [100, 105, 103, 105, 116]) (bs [103, 114, 97, 112, 104]) (bs [108, 111, 119, 101, 114]) (bs [112, 114, 105, 110, 116]) (bs [112, 117, 110, 99, 116]) (bs [115, 112, 97, 99, 101]) (bs [117, 112, 112, 101, 114]) (bs [119, 111, 114, 100]) (bs [120, 100, 105, 103, 105, 116]) v10_0 v10_1 v10_2 v10_3 v10_4 v10_5 v10_6 v10_7 v10_8 v10_9 v10_10 v10_11 v10_12 v10_13 4 = some (pickK v0 [([99, 110, 116, 114, 108], v10_4), ([100, 105, 103, 105, 116], v10_5), ([103, 114, 97, 112, 104], v10_6), ([108, 111, 119, 101, 114], v10_7), ([112, 114, 105, 110, 116], v10_8), ([112, 117, 110, 99, 116], v10_9), ([115, 112, 97, 99, 101], v10_10), ([117, 112, 112, 101, 114], v10_11), ([119, 111, 114, 100], v10_12), ([120, 100, 105, 103, 105, 116], v10_13)]) := by
  apply M57_16_of
  rw [dT (by decide), dT (by decide), dT (by decide), dT (by decide)]
  cases h : ((bs [99, 110, 116, 114, 108]).toList == v0.toList) with
  | true =>
    refine (cT h).trans ?_
    rw [dT (by decide), dT (by decide), dT (by show (4 : Nat) < 14; decide)]
    unfold pickK
    rw [cT h]
    rfl
  | false =>
    refine (cF h).trans ?_
    rw [show IntKind.i64.wrap (4 + 1) = 5 from by decide, HL5 _ _ _ _ _ _ _ _ _ _ _ _ _ _ _ _ _ _ _ _ _]
    conv => rhs; unfold pickK
    rw [cF h]
theorem HL3 (v0 : ByteArray) (v1 : Int) (v4 : Bool) (v5 : Bool) (v6 : Bool) (v7 : Bool) (v8 : Bool) (v10_0 : Bool) (v10_1 : Bool) (v10_2 : Bool) (v10_3 : Bool) (v10_4 : Bool) (v10_5 : Bool) (v10_6 : Bool) (v10_7 : Bool) (v10_8 : Bool) (v10_9 : Bool) (v10_10 : Bool) (v10_11 : Bool) (v10_12 : Bool) (v10_13 : Bool) : M57_16 v0 v1 v4 v5 v6 v7 v8 (bs [97, 108, 110, 117, 109]) (bs [97, 108, 112, 104, 97]) (bs [97, 115, 99, 105, 105]) (bs [98, 108, 97, 110, 107]) (bs [99, 110, 116, 114, 108]) (bs [100, 105, 103, 105, 116]) (bs [103, 114, 97, 112, 104]) (bs [108, 111, 119, 101, 114]) (bs [112, 114, 105, 110, 116]) (bs [112, 117, 110, 99, 116]) (bs [115, 112, 97, 99, 101]) (bs [117, 112, 112, 101, 114]) (bs [119, 111, 114, 100]) (bs [120, 100, 105, 103, 105, 116]) v10_0 v10_1 v10_2 v10_3 v10_4 v10_5 v10_6 v10_7 v10_8 v10_9 v10_10 v10_11 v10_12 v10_13 3 = some (pickK v0 [([98, 108, 97, 110, 107], v10_3), ([99, 110, 116, 114, 108], v10_4), ([100, 105, 103, 105, 116], v10_5), ([103, 114, 97, 112, 104], v10_6), ([108, 111, 119, 101, 114], v10_7), ([112, 114, 105, 110, 116], v10_8), ([112, 117, 110, 99, 116], v10_9), ([115, 112, 97, 99, 101], v10_10), ([117, 112, 112, 101, 114], v10_11), ([119, 111, 114, 100], v10_12), ([120, 100, 105, 103, 105, 116], v10_13)]) := by
  apply M57_16_of
  rw [dT (by decide), dT (by decide), dT (by decide), dT (by decide)]
  cases h : ((bs [98, 108, 97, 110, 107]).toList == v0.toList) with
  | true =>
    refine (cT h).trans ?_
    rw [dT (by decide), dT (by decide), dT (by show (3 : Nat) < 14; decide)]
    unfold pickK
    rw [cT h]
    rfl
  | false =>
    refine (cF h).trans ?_
    rw [show IntKind.i64.wrap (3 + 1) = 4 from by decide, HL4 _ _ _ _ _ _ _ _ _ _ _ _ _ _ _ _ _ _ _ _ _]
    conv => rhs; unfold pickK
    rw [cF h]
theorem HL2 (v0 : ByteArray) (v1 : Int) (v4 : Bool) (v5 : Bool) (v6 : Bool) (v7 : Bool) (v8 : Bool) (v10_0 : Bool) (v10_1 : Bool) (v10_2 : Bool) (v10_3 : Bool) (v10_4 : Bool) (v10_5 : Bool) (v10_6 : Bool) (v10_7 : Bool) (v10_8 : Bool) (v10_9 : Bool) (v10_10 : Bool) (v10_11 : Bool) (v10_12 : Bool) (v10_13 : Bool) : M57_16 v0 v1 v4 v5 v6 v7 v8 (bs [97, 108, 110, 117, 109]) (bs [97, 108, 112, 104, 97]) (bs [97, 115, 99, 105, 105]) (bs [98, 108, 97, 110, 107]) (bs [99, 110, 116, 114, 108]) (bs [100, 105, 103, 105, 116]) (bs [103, 114, 97, 112, 104]) (bs [108, 111, 119, 101, 114]) (bs [112, 114, 105, 110, 116]) (bs [112, 117, 110, 99, 116]) (bs [115, 112, 97, 99, 101]) (bs [117, 112, 112, 101, 114]) (bs [119, 111, 114, 100]) (bs [120, 100, 105, 103, 105, 116]) v10_0 v10_1 v10_2 v10_3 v10_4 v10_5 v10_6 v10_7 v10_8 v10_9 v10_10 v10_11 v10_12 v10_13 2 = some (pickK v0 [([97, 115, 99, 105, 105], v10_2), ([98, 108, 97, 110, 107], v10_3), ([99, 110, 116, 114, 108], v10_4), ([100, 105, 103, 105, 116], v10_5), ([103, 114, 97, 112, 104], v10_6), ([108, 111, 119, 101, 114], v10_7), ([112, 114, 105, 110, 116], v10_8), ([112, 117, 110, 99, 116], v10_9), ([115, 112, 97, 99, 101], v10_10), ([117, 112, 112, 101, 114], v10_11), ([119, 111, 114, 100], v10_12), ([120, 100, 105, 103, 105, 116], v10_13)]) := by
  apply M57_16_of
  rw [dT (by decide), dT (by decide), dT (by decide), dT (by decide)]
  cases h : ((bs [97, 115, 99, 105, 105]).toList == v0.toList) with
  | true =>
    refine (cT h).trans ?_
    rw [dT (by decide), dT (by decide), dT (by show (2 : Nat) < 14; decide)]
    unfold pickK
    rw [cT h]
    rfl
  | false =>
    refine (cF h).trans ?_
    rw [show IntKind.i64.wrap (2 + 1) = 3 from by decide, HL3 _ _ _ _ _ _ _ _ _ _ _ _ _ _ _ _ _ _ _ _ _]
    conv => rhs; unfold pickK
    rw [cF h]
theorem HL1 (v0 : ByteArray) (v1 : Int) (v4 : Bool) (v5 : Bool) (v6 : Bool) (v7 : Bool) (v8 : Bool) (v10_0 : Bool) (v10_1 : Bool) (v10_2 : Bool) (v10_3 : Bool) (v10_4 : Bool) (v10_5 : Bool) (v10_6 : Bool) (v10_7 : Bool) (v10_8 : Bool) (v10_9 : Bool) (v10_10 : Bool) (v10_11 : Bool) (v10_12 : Bool) (v10_13 : Bool) : M57_16 v0 v1 v4 v5 v6 v7 v8 (bs [97, 108, 110, 117, 109]) (bs [97, 108, 112, 104, 97]) (bs [97, 115, 99, 105, 105]) (bs [98, 108, 97, 110, 107]) (bs [99, 110, 116, 114, 108]) (bs [100, 105, 103, 105, 116]) (bs [103, 114, 97, 112, 104]) (bs [108, 111, 119, 101, 114]) (bs [112, 114, 105, 110, 116]) (bs [112, 117, 110, 99, 116]) (bs [115, 112, 97, 99, 101]) (bs [117, 112, 112, 101, 114]) (bs [119, 111, 114, 100]) (bs [120, 100, 105, 103, 105, 116]) v10_0 v10_1 v10_2 v10_3 v10_4 v10_5 v10_6 v10_7 v10_8 v10_9 v10_10 v10_11 v10_12 v10_13 1 = some (pickK v0 [([97, 108, 112, 104, 97], v10_1), ([97, 115, 99, 105, 105], v10_2), ([98, 108, 97, 110, 107], v10_3), ([99, 110, 116, 114, 108], v10_4), ([100, 105, 103, 105, 116], v10_5), ([103, 114, 97, 112, 104], v10_6), ([108, 111, 119, 101, 114], v10_7), ([112, 114, 105, 110, 116], v10_8), ([112, 117, 110, 99, 116], v10_9), ([115, 112, 97, 99, 101], v10_10), ([117, 112, 112, 101, 114], v10_11), ([119, 111, 114, 100], v10_12), ([120, 100, 105, 103, 105, 116], v10_13)]) := by
  apply M57_16_of
  rw [dT (by decide), dT (by decide), dT (by decide), dT (by decide)]
  cases h : ((bs [97, 108, 112, 104, 97]).toList == v0.toList) with
  | true =>
    refine (cT h).trans ?_
    rw [dT (by decide), dT (by decide), dT (by show (1 : Nat) < 14; decide)]
    unfold pickK
    rw [cT h]
    rfl
  | false =>
    refine (cF h).trans ?_
    rw [show IntKind.i64.wrap (1 + 1) = 2 from by decide, HL2 _ _ _ _ _ _ _ _ _ _ _ _ _ _ _ _ _ _ _ _ _]
    conv => rhs; unfold pickK
    rw [cF h]
theorem HL0 (v0 : ByteArray) (v1 : Int) (v4 : Bool) (v5 : Bool) (v6 : Bool) (v7 : Bool) (v8 : Bool) (v10_0 : Bool) (v10_1 : Bool) (v10_2 : Bool) (v10_3 : Bool) (v10_4 : Bool) (v10_5 : Bool) (v10_6 : Bool) (v10_7 : Bool) (v10_8 : Bool) (v10_9 : Bool) (v10_10 : Bool) (v10_11 : Bool) (v10_12 : Bool) (v10_13 : Bool) : M57_15 v0 v1 v4 v5 v6 v7 v8 (bs [97, 108, 110, 117, 109]) (bs [97, 108, 112, 104, 97]) (bs [97, 115, 99, 105, 105]) (bs [98, 108, 97, 110, 107]) (bs [99, 110, 116, 114, 108]) (bs [100, 105, 103, 105, 116]) (bs [103, 114, 97, 112, 104]) (bs [108, 111, 119, 101, 114]) (bs [112, 114, 105, 110, 116]) (bs [112, 117, 110, 99, 116]) (bs [115, 112, 97, 99, 101]) (bs [117, 112, 112, 101, 114]) (bs [119, 111, 114, 100]) (bs [120, 100, 105, 103, 105, 116]) v10_0 v10_1 v10_2 v10_3 v10_4 v10_5 v10_6 v10_7 v10_8 v10_9 v10_10 v10_11 v10_12 v10_13 0 = some (pickK v0 [([97, 108, 110, 117, 109], v10_0), ([97, 108, 112, 104, 97], v10_1), ([97, 115, 99, 105, 105], v10_2), ([98, 108, 97, 110, 107], v10_3), ([99, 110, 116, 114, 108], v10_4), ([100, 105, 103, 105, 116], v10_5), ([103, 114, 97, 112, 104], v10_6), ([108, 111, 119, 101, 114], v10_7), ([112, 114, 105, 110, 116], v10_8), ([112, 117, 110, 99, 116], v10_9), ([115, 112, 97, 99, 101], v10_10), ([117, 112, 112, 101, 114], v10_11), ([119, 111, 114, 100], v10_12), ([120, 100, 105, 103, 105, 116], v10_13)]) := by
  apply M57_15_of
  rw [dT (by decide), dT (by decide), dT (by decide), dT (by decide)]
  cases h : ((bs [97, 108, 110, 117, 109]).toList == v0.toList) with
  | true =>
    refine (cT h).trans ?_
    rw [dT (by decide), dT (by decide), dT (by show (0 : Nat) < 14; decide)]
    unfold pickK
    rw [cT h]
    rfl
  | false =>
    refine (cF h).trans ?_
    rw [show IntKind.i64.wrap (0 + 1) = 1 from by decide, HL1 _ _ _ _ _ _ _ _ _ _ _ _ _ _ _ _ _ _ _ _ _]
    conv => rhs; unfold pickK
    rw [cF h]
end Go.Proofs.YtedhomemalnpfaaGreatDoor.V
