/-
  The statement DiskSafe of the program is proved: for every input that the row speaks of, the law answers true.
  Conditions: those that the statement's row prints, and no other. This text: plain laws of the pure functions.
-/
import Derived.Test.YtkeejnlicagjiaaDiskSafeP0
set_option linter.unusedVariables false
set_option linter.unusedSimpArgs false
/-! DiskSafe: what was synced outlives the power. -/
namespace Go.Proofs.Ytkeejnlicagjiaa.E
open Go.Ev

theorem round_eq (N : Nat) (x : Int) (n : Nat) (hn : n ≤ 1000000) (h1 : -9223372036854775808 ≤ x) (h2 : x ≤ 9223372036854775807) : ∃ r : Nat, r ≤ n ∧ disk_round N x ((n + 1 : Nat) : Int) = some ((r : Int), ()) := by
  unfold disk_round disk_round_cps
  by_cases h : x < 0
  · rw [if_t h, if_f (by omega), wrap_i64_id (x := x + 1) (by omega) (by omega), wrap_i64_id (by omega) (by omega)]
    obtain ⟨m, hm⟩ : ∃ m : Nat, 0 - (x + 1) = (m : Int) := ⟨(0 - (x + 1)).toNat, by omega⟩
    refine ⟨m % (n + 1), ?_, ?_⟩
    · have := Nat.mod_lt m (show 0 < n + 1 by omega); omega
    · rw [hm, Int.tmod_eq_emod_of_nonneg (by omega)]; rfl
  · rw [if_f h, if_f (by omega)]
    obtain ⟨m, rfl⟩ : ∃ m : Nat, x = (m : Int) := ⟨x.toNat, by omega⟩
    refine ⟨m % (n + 1), ?_, ?_⟩
    · have := Nat.mod_lt m (show 0 < n + 1 by omega); omega
    · rw [Int.tmod_eq_emod_of_nonneg (by omega)]; rfl

theorem power_eq (N : Nat) (x : Int) (b : List UInt8) (p : Int) (s : Nat) (hb : b.length ≤ 1000000) (hs : s ≤ b.length) (r : Nat) (hr : r ≤ b.length - s)
    (h : disk_round N x ((b.length - s + 1 : Nat) : Int) = some ((r : Int), ())) :
    disk_Disk_Power N x b p (s : Int) = some (b, (p, ((s : Int), (b.take (s + r), (p, (((s + r : Nat) : Int), ())))))) := by
  unfold disk_Disk_Power disk_Disk_Power_cps
  rw [wrap_i64_id (x := (b.length : Int) - s) (by omega) (by omega), wrap_i64_id (x := (b.length : Int) - s + 1) (by omega) (by omega),
    show (b.length : Int) - s + 1 = ((b.length - s + 1 : Nat) : Int) by omega, h, bind_some', wrap_i64_id (by omega) (by omega), if_t (by omega),
    List.drop_zero, show ((s : Int) + (r : Int)).toNat = s + r by omega, clone_eq N (by simp; omega), bind_some']
  simp

theorem DiskSafe_all (a b : List UInt8) (x y : Int) (hx : -9223372036854775808 ≤ x ∧ x ≤ 9223372036854775807) (hy : -9223372036854775808 ≤ y ∧ y ≤ 9223372036854775807) : law06_DiskSafe big a b x y = some (true, ()) := by
  unfold law06_DiskSafe law06_DiskSafe_cps
  rw [show disk_New big = some (0, (0, ())) from rfl, bind_some']
  by_cases h1 : 300 < (a.length : Int)
  · rw [if_t h1, alive06]; rfl
  rw [if_f h1]
  by_cases h2 : 300 < (b.length : Int)
  · rw [if_t h2, alive06]; rfl
  rw [if_f h2]
  unfold law06_DiskSafe_j0
  have e1 : disk_Disk_Append big a 0 0 = some (0, (0, (a, (0, (0, ()))))) := by
    unfold disk_Disk_Append disk_Disk_Append_cps
    rw [if_f (by omega), show disk_Disk_End big 0 0 = some (0, ()) from rfl, bind_some', cond_t (room_one (by omega))]
  have e2 : disk_Disk_Sync big a 0 0 = some (0, (a, (0, ((a.length : Int), ())))) := rfl
  have e3 := append_eq big b a 0 (a.length : Int) (by omega)
  obtain ⟨r, hr, er⟩ := round_eq big x b.length (by omega) hx.1 hx.2
  obtain ⟨r', hr', er'⟩ := round_eq big y 0 (by omega) hy.1 hy.2
  have hl : (a ++ b).length = a.length + b.length := by simp
  have e4 := power_eq big x (a ++ b) ((0 : Nat) : Int) a.length (by omega) (by omega) r (by omega) (by rw [show (a ++ b).length - a.length + 1 = b.length + 1 by omega]; exact er)
  have ht : ((a ++ b).take (a.length + r)) = a ++ b.take r := by rw [List.take_append, List.take_of_length_le (by omega), Nat.add_sub_cancel_left]
  rw [ht] at e4
  have hl2 : (a ++ b.take r).length = a.length + r := by simp; omega
  have e5 := end_eq big (a ++ b.take r) 0 ((a.length + r : Nat) : Int) (by omega)
  have e6 := read_eq big 0 (0 + (a ++ b.take r).length) (a ++ b.take r) 0 ((a.length + r : Nat) : Int) (by omega) (by omega) (by omega) (by omega)
  have hr0 : r' = 0 := by omega
  subst hr0
  have e7 := power_eq big y (a ++ b.take r) ((0 : Nat) : Int) (a.length + r) (by omega) (by omega) 0 (by omega) (by rw [show (a ++ b.take r).length - (a.length + r) + 1 = 0 + 1 by omega]; exact er')
  have ht2 : (a ++ b.take r).take (a.length + r + 0) = a ++ b.take r := by rw [show a.length + r + 0 = (a ++ b.take r).length by omega, List.take_length]
  rw [ht2, Nat.add_zero] at e7
  have e8 := safe_eq big (a ++ b.take r) 0 (a.length + r) (by omega)
  have e9 := end_eq big (a ++ b) 0 (a.length : Int) (by omega)
  have ep : ref06_Pick big x (IntKind.wrap .i64 ((b.length : Int) + 1)) = some ((r : Int), ()) := by
    rw [wrap_i64_id (by omega) (by omega)]; exact er
  have hrd : List.drop (0 - 0) (List.take (0 + (a ++ b.take r).length - 0) (a ++ b.take r)) = a ++ b.take r := by simp only [Nat.zero_add, Nat.sub_zero, List.take_length, List.drop_zero]
  rw [hrd] at e6
  rw [show ((0 : Nat) : Int) = 0 from rfl] at *
  rw [e1, bind_some']; dsimp only
  rw [e2, bind_some']; dsimp only
  rw [e3, bind_some']; dsimp only
  rw [e4, bind_some', ep, bind_some']; dsimp only
  rw [e5, bind_some']; dsimp only
  rw [e6, bind_some']; dsimp only
  rw [e7, bind_some']; dsimp only
  rw [e5, bind_some']; dsimp only
  rw [e6, bind_some', alive06, bind_some']; dsimp only
  simp only [decide_true, cond_true]
  rw [if_t (show ((0 + a.length : Nat) : Int) = (a.length : Int) by omega), bind_some', wrap_i64_id (x := (a.length : Int) + r) (by omega) (by omega),
    if_t (show ((0 + (a ++ b.take r).length : Nat) : Int) = (a.length : Int) + r by omega), if_t (by omega), Int.toNat_natCast, List.drop_zero, cond_t (room_one (by simp; omega))]
  simp only [decide_true, cond_true]
  rw [e8, bind_some', bind_some']
  dsimp only
  rw [if_t (show ((0 + (a.length + r) : Nat) : Int) = ((0 + (a ++ b.take r).length : Nat) : Int) by omega), e9, bind_some', wrap_i64_id (by omega) (by omega), dec_t (by omega)]

theorem DiskSafe_pure : DiskSafe_Pure := by
  rintro ⟨a, b, ⟨x, y, _⟩, _⟩ ⟨h1, h2, h3, _⟩
  exact DiskSafe_all a b x y h3.1 h3.2.1

end Go.Proofs.Ytkeejnlicagjiaa.E
