/-
  The statement DiskCuts of the program is proved: for every input that the row speaks of, the law answers true.
  Conditions: those that the statement's row prints, and no other. This text: plain laws of the pure functions.
-/
import Derived.Test.YtkeejnlicagjiaaDiskCutsF
import Derived.Test.YtkeejnlicagjiaaEvA
import Derived.KernelRfl
set_option linter.unusedVariables false
set_option linter.unusedSimpArgs false
/-! DiskCuts: a disk is cut, and written on. -/
namespace Go.Proofs.Ytkeejnlicagjiaa.E
open Go.Ev

theorem alive06 : law06_alive big = some (true, ()) := by rw [big_eq]; kernel_rfl

theorem clone_eq (N : Nat) {b : List UInt8} (h : b.length ≤ 1000000) : bytes_Clone N b = some (b, ()) := by
  unfold bytes_Clone bytes_Clone_cps
  rw [cond_t (room_one (by simp; omega)), List.nil_append]

theorem end_eq (N : Nat) (b : List UInt8) (p : Nat) (s : Int) (h : b.length + p ≤ 1000000) : disk_Disk_End_1 N b (p : Int) s = some (((p + b.length : Nat) : Int), ()) := by
  unfold disk_Disk_End_1 disk_Disk_End_1_cps
  rw [wrap_i64_id (by omega) (by omega)]; simp

theorem safe_eq (N : Nat) (b : List UInt8) (p s : Nat) (h : s + p ≤ 1000000) : disk_Disk_Safe N b (p : Int) (s : Int) = some (((p + s : Nat) : Int), ()) := by
  unfold disk_Disk_Safe disk_Disk_Safe_cps
  rw [wrap_i64_id (by omega) (by omega)]; simp

theorem append_eq (N : Nat) (x b : List UInt8) (p : Nat) (s : Int) (h : b.length + p + x.length ≤ 1000000) : disk_Disk_Append_1 N x b (p : Int) s = some (((p + b.length : Nat) : Int), (0, (b ++ x, ((p : Int), (s, ()))))) := by
  unfold disk_Disk_Append_1 disk_Disk_Append_1_cps
  rw [wrap_i64_id (by omega) (by omega), if_f (by omega), end_eq N b p s (by omega), bind_some', cond_t (room_one (by omega))]

theorem read_eq (N : Nat) (i j : Nat) (b : List UInt8) (p : Nat) (s : Int) (h : b.length + p ≤ 1000000) (h1 : p ≤ i) (h2 : i ≤ j) (h3 : j ≤ p + b.length) :
    disk_Disk_Read N (i : Int) (j : Int) b (p : Int) s = some ((b.take (j - p)).drop (i - p), (0, ())) := by
  unfold disk_Disk_Read disk_Disk_Read_cps
  rw [if_f (by omega), if_f (by omega), end_eq N b p s h, bind_some', if_f (show ¬ ((p + b.length : Nat) : Int) < (j : Int) by omega),
    wrap_i64_id (x := (j : Int) - p) (by omega) (by omega), wrap_i64_id (x := (i : Int) - p) (by omega) (by omega), if_t (by omega), if_t (by omega),
    show ((j : Int) - p).toNat = j - p by omega, show ((i : Int) - p).toNat = i - p by omega, clone_eq N (by simp; omega), bind_some']

theorem read_low (N : Nat) (i : Int) (j : Int) (b : List UInt8) (p : Nat) (s : Int) (h1 : i < p) : disk_Disk_Read N i j b (p : Int) s = some ([], (61, ())) := by
  unfold disk_Disk_Read disk_Disk_Read_cps
  rw [if_t h1]

theorem round_eq (N : Nat) (x : Int) (n : Nat) (hn : n ≤ 1000000) (h1 : -9223372036854775808 ≤ x) (h2 : x ≤ 9223372036854775807) : ∃ r : Nat, r ≤ n ∧ disk_round N x ((n + 1 : Nat) : Int) = some ((r : Int), ()) := by
  unfold disk_round disk_round_cps
  by_cases h : x < 0
  · rw [if_t h, if_f (by omega), wrap_i64_id (x := x + 1) (by omega) (by omega), wrap_i64_id (by omega) (by omega)]
    obtain ⟨m, hm⟩ : ∃ m : Nat, 0 - (x + 1) = (m : Int) := ⟨(0 - (x + 1)).toNat, by omega⟩
    refine ⟨m % (n + 1), ?_, ?_⟩
    · have := Nat.mod_lt m (show 0 < n + 1 by omega); omega
    · rw [hm, Int.tmod_eq_emod_of_nonneg (by omega)]; rfl
  · rw [if_f h, if_f (by omega)]
    obtain ⟨m, rfl⟩ : ∃ m : Nat, x = (m : Int) := ⟨x.toNat, by omega⟩
    refine ⟨m % (n + 1), ?_, ?_⟩
    · have := Nat.mod_lt m (show 0 < n + 1 by omega); omega
    · rw [Int.tmod_eq_emod_of_nonneg (by omega)]; rfl

theorem power_eq (N : Nat) (x : Int) (b : List UInt8) (p : Int) (s : Nat) (hb : b.length ≤ 1000000) (hs : s ≤ b.length) (r : Nat) (hr : r ≤ b.length - s)
    (h : disk_round N x ((b.length - s + 1 : Nat) : Int) = some ((r : Int), ())) :
    disk_Disk_Power N x b p (s : Int) = some (b, (p, ((s : Int), (b.take (s + r), (p, (((s + r : Nat) : Int), ())))))) := by
  unfold disk_Disk_Power disk_Disk_Power_cps
  rw [wrap_i64_id (x := (b.length : Int) - s) (by omega) (by omega), wrap_i64_id (x := (b.length : Int) - s + 1) (by omega) (by omega),
    show (b.length : Int) - s + 1 = ((b.length - s + 1 : Nat) : Int) by omega, h, bind_some', wrap_i64_id (by omega) (by omega), if_t (by omega),
    List.drop_zero, show ((s : Int) + (r : Int)).toNat = s + r by omega, clone_eq N (by simp; omega), bind_some']
  simp

theorem read_high (N : Nat) (i j : Nat) (b : List UInt8) (p : Nat) (s : Int) (h : b.length + p ≤ 1000000) (h1 : p ≤ i) (h2 : i ≤ j) (h3 : p + b.length < j) :
    disk_Disk_Read N (i : Int) (j : Int) b (p : Int) s = some ([], (61, ())) := by
  unfold disk_Disk_Read disk_Disk_Read_cps
  rw [if_f (by omega), if_f (by omega), end_eq N b p s h, bind_some', if_t (show ((p + b.length : Nat) : Int) < (j : Int) by omega)]

theorem cut_eq (N : Nat) (i : Nat) (b : List UInt8) (p : Nat) (s : Int) (h : b.length + p ≤ 1000000) (h1 : p ≤ i) (h2 : i ≤ p + b.length) :
    disk_Disk_Cut N (i : Int) b (p : Int) s = some (0, (b.take (i - p), ((p : Int), (((i - p : Nat) : Int), ())))) := by
  unfold disk_Disk_Cut disk_Disk_Cut_cps
  rw [if_f (by omega), end_eq N b p s h, bind_some', if_f (show ¬ ((p + b.length : Nat) : Int) < (i : Int) by omega), if_t rfl,
    wrap_i64_id (x := (i : Int) - p) (by omega) (by omega), if_t (by omega), show (i : Int) - p = ((i - p : Nat) : Int) by omega, Int.toNat_natCast, List.drop_zero]

theorem cut_not (N : Nat) (i : Int) (b : List UInt8) (p : Nat) (s : Int) (h : b.length + p ≤ 1000000) (h1 : i < p ∨ ((p + b.length : Nat) : Int) < i) :
    disk_Disk_Cut N i b (p : Int) s = some (1, (b, ((p : Int), (s, ())))) := by
  unfold disk_Disk_Cut disk_Disk_Cut_cps
  by_cases h2 : i < p
  · rw [if_t h2]
  · rw [if_f h2, end_eq N b p s h, bind_some', if_t (show ((p + b.length : Nat) : Int) < i by omega)]

theorem DiskCuts_all (a b : List UInt8) (x : Int) (hx : -9223372036854775808 ≤ x ∧ x ≤ 9223372036854775807) : law06_DiskCuts big a b x = some (true, ()) := by
  unfold law06_DiskCuts law06_DiskCuts_cps
  rw [show disk_New big = some (0, (0, ())) from rfl, bind_some']
  by_cases h1 : 300 < (a.length : Int)
  · rw [if_t h1, alive06]; rfl
  rw [if_f h1]
  by_cases h2 : 300 < (b.length : Int)
  · rw [if_t h2, alive06]; rfl
  rw [if_f h2]
  unfold law06_DiskCuts_j0
  have e1 : disk_Disk_Append big a 0 0 = some (0, (0, (a, (0, (0, ()))))) := by
    unfold disk_Disk_Append disk_Disk_Append_cps
    rw [if_f (by omega), show disk_Disk_End big 0 0 = some (0, ()) from rfl, bind_some', cond_t (room_one (by omega))]
  obtain ⟨r, hr, er⟩ := round_eq big x a.length (by omega) hx.1 hx.2
  have ep : ref06_Pick big x (IntKind.wrap .i64 ((a.length : Int) + 1)) = some ((r : Int), ()) := by
    rw [wrap_i64_id (by omega) (by omega)]; exact er
  have e2 := cut_eq big r a 0 0 (by omega) (by omega) (by omega)
  rw [Nat.sub_zero] at e2
  have hl : (a.take r).length = r := by simp; omega
  have e3 : disk_Disk_Append_2 big b (a.take r) ((0 : Nat) : Int) (r : Int) = _ := append_eq big b (a.take r) 0 (r : Int) (by omega)
  have hl2 : (a.take r ++ b).length = r + b.length := by simp; omega
  have e4 : disk_Disk_End_2 big (a.take r ++ b) ((0 : Nat) : Int) (r : Int) = _ := end_eq big (a.take r ++ b) 0 (r : Int) (by omega)
  have e5 : disk_Disk_Read_1 big ((0 : Nat) : Int) ((0 + (a.take r ++ b).length : Nat) : Int) (a.take r ++ b) ((0 : Nat) : Int) (r : Int) = _ := read_eq big 0 (0 + (a.take r ++ b).length) (a.take r ++ b) 0 (r : Int) (by omega) (by omega) (by omega) (by omega)
  have hrd : List.drop (0 - 0) (List.take (0 + (a.take r ++ b).length - 0) (a.take r ++ b)) = a.take r ++ b := by simp only [Nat.zero_add, Nat.sub_zero, List.take_length, List.drop_zero]
  rw [hrd] at e5
  have e6 : disk_Disk_Read_1 big ((0 : Nat) : Int) ((0 + (a.take r ++ b).length + 1 : Nat) : Int) (a.take r ++ b) ((0 : Nat) : Int) (r : Int) = _ := read_high big 0 (0 + (a.take r ++ b).length + 1) (a.take r ++ b) 0 (r : Int) (by omega) (by omega) (by omega) (by omega)
  have er0 : disk_round big 0 (((a.take r ++ b).length - r + 1 : Nat) : Int) = some (((0 : Nat) : Int), ()) := by
    unfold disk_round disk_round_cps
    rw [if_f (by omega), if_f (by omega)]; simp
  have e7 := power_eq big 0 (a.take r ++ b) ((0 : Nat) : Int) r (by omega) (by omega) 0 (by omega) er0
  have ht : (a.take r ++ b).take (r + 0) = a.take r := by rw [Nat.add_zero, List.take_append_of_le_length (by omega), List.take_of_length_le (by omega)]
  rw [ht, Nat.add_zero] at e7
  have e8 : disk_Disk_Safe_1 big (a.take r ++ b) ((0 : Nat) : Int) (r : Int) = _ := safe_eq big (a.take r ++ b) 0 r (by omega)
  have e9 := end_eq big (a.take r) 0 (r : Int) (by omega)
  have e10 : disk_Disk_Cut_1 big ((0 + (a.take r ++ b).length + 1 : Nat) : Int) (a.take r ++ b) ((0 : Nat) : Int) (r : Int) = _ := cut_not big _ (a.take r ++ b) 0 (r : Int) (by omega) (.inr (by omega))
  have e11 : disk_Disk_Cut_1 big (-1) (a.take r ++ b) ((0 : Nat) : Int) (r : Int) = _ := cut_not big (-1) (a.take r ++ b) 0 (r : Int) (by omega) (.inl (by omega))
  have hw : IntKind.wrap .i64 (((0 + (a.take r ++ b).length : Nat) : Int) + 1) = ((0 + (a.take r ++ b).length + 1 : Nat) : Int) := by rw [wrap_i64_id (by omega) (by omega)]; omega
  rw [show ((0 : Nat) : Int) = 0 from rfl] at *
  rw [e1, bind_some', ep, bind_some']; dsimp only
  rw [e2, bind_some']; dsimp only
  rw [e3, bind_some']; dsimp only
  rw [e4, bind_some']; dsimp only
  rw [e5, bind_some']; dsimp only
  rw [bind_some']; dsimp only
  rw [hw, e6, bind_some']; dsimp only
  rw [e7, bind_some', alive06, bind_some']; dsimp only
  simp only [decide_true, cond_true]
  rw [if_t (show ((0 + (a.take r).length : Nat) : Int) = (r : Int) by omega), if_t (by omega), Int.toNat_natCast, List.drop_zero, cond_t (room_one (by omega))]
  simp only [decide_true, cond_true]
  rw [e8, bind_some']; dsimp only
  rw [if_t (show ((0 + r : Nat) : Int) = (r : Int) by omega), e9, bind_some']; dsimp only
  rw [if_t (show ((0 + (a.take r).length : Nat) : Int) = (r : Int) by omega), e4, bind_some']; dsimp only
  rw [hw, e10, bind_some']; dsimp only
  rw [if_t rfl, e11, bind_some']; rfl

theorem DiskCuts_pure : DiskCuts_Pure := by
  rintro ⟨a, b, x, _⟩ ⟨h1, h2, h3, _⟩
  exact DiskCuts_all a b x h3

end Go.Proofs.Ytkeejnlicagjiaa.E
