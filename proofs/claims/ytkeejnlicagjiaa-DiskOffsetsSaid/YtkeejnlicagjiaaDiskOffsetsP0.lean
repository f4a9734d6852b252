/-
  The statement DiskOffsets of the program is proved: for every input that the row speaks of, the law answers true.
  Conditions: those that the statement's row prints, and no other. This text: plain laws of the pure functions.
-/
import Derived.Test.YtkeejnlicagjiaaDiskOffsetsF
import Derived.Test.YtkeejnlicagjiaaEvA
import Derived.KernelRfl
set_option linter.unusedVariables false
set_option linter.unusedSimpArgs false
/-! The disk's functions, for few bytes. -/
namespace Go.Proofs.Ytkeejnlicagjiaa.E
open Go.Ev

theorem alive06 : law06_alive big = some (true, ()) := by rw [big_eq]; kernel_rfl

theorem clone_eq (N : Nat) {b : List UInt8} (h : b.length ≤ 1000000) : bytes_Clone N b = some (b, ()) := by
  unfold bytes_Clone bytes_Clone_cps
  rw [cond_t (room_one (by simp; omega)), List.nil_append]

theorem end_eq (N : Nat) (b : List UInt8) (p : Nat) (s : Int) (h : b.length + p ≤ 1000000) : disk_Disk_End_1 N b (p : Int) s = some (((p + b.length : Nat) : Int), ()) := by
  unfold disk_Disk_End_1 disk_Disk_End_1_cps
  rw [wrap_i64_id (by omega) (by omega)]; simp

theorem safe_eq (N : Nat) (b : List UInt8) (p s : Nat) (h : s + p ≤ 1000000) : disk_Disk_Safe N b (p : Int) (s : Int) = some (((p + s : Nat) : Int), ()) := by
  unfold disk_Disk_Safe disk_Disk_Safe_cps
  rw [wrap_i64_id (by omega) (by omega)]; simp

theorem append_eq (N : Nat) (x b : List UInt8) (p : Nat) (s : Int) (h : b.length + p + x.length ≤ 1000000) : disk_Disk_Append_1 N x b (p : Int) s = some (((p + b.length : Nat) : Int), (0, (b ++ x, ((p : Int), (s, ()))))) := by
  unfold disk_Disk_Append_1 disk_Disk_Append_1_cps
  rw [wrap_i64_id (by omega) (by omega), if_f (by omega), end_eq N b p s (by omega), bind_some', cond_t (room_one (by omega))]

theorem read_eq (N : Nat) (i j : Nat) (b : List UInt8) (p : Nat) (s : Int) (h : b.length + p ≤ 1000000) (h1 : p ≤ i) (h2 : i ≤ j) (h3 : j ≤ p + b.length) :
    disk_Disk_Read N (i : Int) (j : Int) b (p : Int) s = some ((b.take (j - p)).drop (i - p), (0, ())) := by
  unfold disk_Disk_Read disk_Disk_Read_cps
  rw [if_f (by omega), if_f (by omega), end_eq N b p s h, bind_some', if_f (show ¬ ((p + b.length : Nat) : Int) < (j : Int) by omega),
    wrap_i64_id (x := (j : Int) - p) (by omega) (by omega), wrap_i64_id (x := (i : Int) - p) (by omega) (by omega), if_t (by omega), if_t (by omega),
    show ((j : Int) - p).toNat = j - p by omega, show ((i : Int) - p).toNat = i - p by omega, clone_eq N (by simp; omega), bind_some']

theorem read_low (N : Nat) (i : Int) (j : Int) (b : List UInt8) (p : Nat) (s : Int) (h1 : i < p) : disk_Disk_Read N i j b (p : Int) s = some ([], (61, ())) := by
  unfold disk_Disk_Read disk_Disk_Read_cps
  rw [if_t h1]

theorem drop_eq (N : Nat) (i : Nat) (b : List UInt8) (p s : Nat) (h : b.length + p ≤ 1000000) (hs : s ≤ b.length) (h1 : p ≤ i) (h2 : i ≤ p + s) :
    disk_Disk_Drop N (i : Int) b (p : Int) (s : Int) = some (0, (b.drop (i - p), ((i : Int), (((s - (i - p) : Nat) : Int), ())))) := by
  unfold disk_Disk_Drop disk_Disk_Drop_cps disk_Disk_Drop_j0
  rw [if_f (by omega), safe_eq N b p s (by omega), bind_some', if_f (show ¬ ((p + s : Nat) : Int) < (i : Int) by omega),
    wrap_i64_id (x := (i : Int) - p) (by omega) (by omega), if_t (by omega), show ((i : Int) - p).toNat = i - p by omega, List.take_length, clone_eq N (by simp; omega), bind_some',
    wrap_i64_id (by omega) (by omega), show (s : Int) - ((i : Int) - p) = ((s - (i - p) : Nat) : Int) by omega]

theorem drop_not (N : Nat) (i : Int) (b : List UInt8) (p s : Nat) (h : b.length + p ≤ 1000000) (hs : s ≤ b.length) (h1 : i < p ∨ (p : Int) + s < i) :
    disk_Disk_Drop N i b (p : Int) (s : Int) = some (1, (b, ((p : Int), ((s : Int), ())))) := by
  unfold disk_Disk_Drop disk_Disk_Drop_cps
  by_cases h2 : i < p
  · rw [if_t h2]
  · rw [if_f h2, safe_eq N b p s (by omega), bind_some', if_t (show ((p + s : Nat) : Int) < i by omega)]

end Go.Proofs.Ytkeejnlicagjiaa.E
