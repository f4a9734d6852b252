/-
  The statement DiskPlays of the program is proved: for every input that the row speaks of, the law answers true.
  Conditions: those that the statement's row prints, and no other. This text: plain laws of the pure functions.
-/
import Derived.Test.YtkeejnlicagjiaaDiskPlaysF
import Derived.Test.YtkeejnlicagjiaaEvA
import Derived.KernelRfl
set_option linter.unusedVariables false
set_option linter.unusedSimpArgs false
/-! DiskPlays: the disk does as the document's. -/
namespace Go.Proofs.Ytkeejnlicagjiaa.E
open Go.Ev

theorem alive06 : law06_alive big = some (true, ()) := by rw [big_eq]; kernel_rfl

theorem clone_eq (N : Nat) {b : List UInt8} (h : b.length ≤ 1000000) : bytes_Clone N b = some (b, ()) := by
  unfold bytes_Clone bytes_Clone_cps
  rw [cond_t (room_one (by simp; omega)), List.nil_append]

/-- The disk and the document's: the bytes from p on, of which s are safe, are what stands in all bytes A. -/
structure Rel (n : Nat) (b A : List UInt8) (p s : Nat) : Prop where
  safe : s ≤ b.length
  all : p + b.length ≤ A.length
  eq : b = (A.take (p + b.length)).drop p
  few : A.length ≤ 300 * n

theorem end_eq (N : Nat) (b : List UInt8) (p : Nat) (s : Int) (h : b.length + p ≤ 1000000) : disk_Disk_End_2 N b (p : Int) s = some (((p + b.length : Nat) : Int), ()) := by
  unfold disk_Disk_End_2 disk_Disk_End_2_cps
  rw [wrap_i64_id (by omega) (by omega)]; simp

theorem safe_eq (N : Nat) (b : List UInt8) (p s : Nat) (h : s + p ≤ 1000000) : disk_Disk_Safe_2 N b (p : Int) (s : Int) = some (((p + s : Nat) : Int), ()) := by
  unfold disk_Disk_Safe_2 disk_Disk_Safe_2_cps
  rw [wrap_i64_id (by omega) (by omega)]; simp

theorem read_same (N : Nat) (i j : Int) {n : Nat} {b A : List UInt8} {p s : Nat} (h : Rel n b A p s) (hn : n ≤ 60) :
    ∃ x e, disk_Disk_Read_2 N i j b (p : Int) (s : Int) = some (x, (e, ())) ∧ ref06_Disk_Read N i j A (p : Int) ((p + b.length : Nat) : Int) ((p + s : Nat) : Int) = some (x, (e, ())) := by
  have h1 := h.few
  have h2 := h.all
  unfold disk_Disk_Read_2 disk_Disk_Read_2_cps ref06_Disk_Read ref06_Disk_Read_cps
  by_cases c1 : i < (p : Int)
  · exact ⟨[], 61, by rw [if_t c1], by rw [if_t c1]⟩
  by_cases c2 : j < i
  · exact ⟨[], 61, by rw [if_f c1, if_t c2], by rw [if_f c1, if_t c2]⟩
  rw [if_f c1, if_f c2, if_f c1, if_f c2, end_eq N b p s (by omega), bind_some']
  by_cases c3 : ((p + b.length : Nat) : Int) < j
  · exact ⟨[], 61, by rw [if_t c3], by rw [if_t c3]⟩
  rw [if_f c3, if_f c3]
  obtain ⟨i', rfl⟩ : ∃ i' : Nat, i = (i' : Int) := ⟨i.toNat, by omega⟩
  obtain ⟨j', rfl⟩ : ∃ j' : Nat, j = (j' : Int) := ⟨j.toNat, by omega⟩
  rw [wrap_i64_id (x := (j' : Int) - p) (by omega) (by omega), wrap_i64_id (x := (i' : Int) - p) (by omega) (by omega), if_t (by omega), if_t (by omega), if_t (by omega), if_t (by omega),
    cond_t (room_one (by simp; omega)), List.nil_append, show ((j' : Int) - p).toNat = j' - p by omega, show ((i' : Int) - p).toNat = i' - p by omega, clone_eq N (by simp; omega), bind_some', Int.toNat_natCast, Int.toNat_natCast]
  refine ⟨_, 0, rfl, ?_⟩
  have e : (b.take (j' - p)).drop (i' - p) = (A.take j').drop i' := by
    apply List.ext_getElem?; intro q
    rw [h.eq, List.getElem?_drop, List.getElem?_drop, List.getElem?_take, List.getElem?_take, List.getElem?_drop, List.getElem?_take]
    by_cases hq : i' + q < j'
    · rw [if_pos (by omega), if_pos hq, if_pos (by omega)]; congr 1; omega
    · rw [if_neg (by omega), if_neg hq]
  rw [e]

theorem append_same (N : Nat) (x : List UInt8) (hx : x.length ≤ 300) {n : Nat} {b A : List UInt8} {p s : Nat} (h : Rel n b A p s) (hn : n ≤ 60) :
    disk_Disk_Append_2 N b (p : Int) (s : Int) x = some (((p + b.length : Nat) : Int), (0, (b ++ x, ((p : Int), ((s : Int), (x, ()))))))
    ∧ ref06_Disk_Append_1 N x A (p : Int) ((p + b.length : Nat) : Int) ((p + s : Nat) : Int) = some (((p + b.length : Nat) : Int), (0, (A.take (p + b.length) ++ x, ((p : Int), (((p + (b ++ x).length : Nat) : Int), (((p + s : Nat) : Int), ()))))))
    ∧ Rel (n + 1) (b ++ x) (A.take (p + b.length) ++ x) p s := by
  have h1 := h.few
  have h2 := h.all
  have hl : (b ++ x).length = b.length + x.length := by simp
  refine ⟨?_, ?_, ⟨by have := h.safe; omega, by simp; omega, ?_, by simp; omega⟩⟩
  · unfold disk_Disk_Append_2 disk_Disk_Append_2_cps
    rw [wrap_i64_id (by omega) (by omega), if_f (by omega), end_eq N b p s (by omega), bind_some', cond_t (room_one (by omega))]
  · unfold ref06_Disk_Append_1 ref06_Disk_Append_1_cps
    rw [wrap_i64_id (x := ((p + b.length : Nat) : Int) - p) (by omega) (by omega), wrap_i64_id (x := ((p + b.length : Nat) : Int) - p + x.length) (by omega) (by omega), wrap_i64_id (x := ((p + b.length : Nat) : Int) + x.length) (by omega) (by omega),
      if_f (by omega), if_f (by omega), if_t (by omega), Int.toNat_natCast, cond_t (room_one (by simp; omega)), cond_t (room_one (by simp; omega)), List.nil_append, List.drop_zero,
      show ((p + b.length : Nat) : Int) + x.length = ((p + (b ++ x).length : Nat) : Int) by rw [hl]; omega]
  · have e : (A.take (p + b.length) ++ x).take (p + (b ++ x).length) = A.take (p + b.length) ++ x := List.take_of_length_le (by simp; omega)
    rw [e, List.drop_append_of_le_length (by simp; omega), ← h.eq]

theorem sync_same (N : Nat) {n : Nat} {b A : List UInt8} {p s : Nat} (h : Rel n b A p s) :
    disk_Disk_Sync_2 N b (p : Int) (s : Int) = some (0, (b, ((p : Int), (((b.length : Nat) : Int), ()))))
    ∧ ref06_Disk_Sync_1 N A (p : Int) ((p + b.length : Nat) : Int) ((p + s : Nat) : Int) = some (0, (A, ((p : Int), (((p + b.length : Nat) : Int), (((p + b.length : Nat) : Int), ())))))
    ∧ Rel n b A p b.length := ⟨rfl, rfl, ⟨Nat.le_refl _, h.all, h.eq, h.few⟩⟩

theorem drop_same (N : Nat) (i : Int) {n : Nat} {b A : List UInt8} {p s : Nat} (h : Rel n b A p s) (hn : n ≤ 60) :
    ∃ e b' p' s', disk_Disk_Drop_2 N i b (p : Int) (s : Int) = some (e, (b', ((p' : Nat) : Int), (((s' : Nat) : Int), ())))
    ∧ ref06_Disk_Drop_1 N i A (p : Int) ((p + b.length : Nat) : Int) ((p + s : Nat) : Int) = some (e, (A, (((p' : Nat) : Int), (((p' + b'.length : Nat) : Int), (((p' + s' : Nat) : Int), ())))))
    ∧ Rel n b' A p' s' := by
  have h1 := h.few
  have h2 := h.all
  have h3 := h.safe
  unfold disk_Disk_Drop_2 disk_Disk_Drop_2_cps ref06_Disk_Drop_1 ref06_Disk_Drop_1_cps
  by_cases c1 : i < (p : Int)
  · exact ⟨1, b, p, s, by rw [if_t c1], by rw [if_t c1], h⟩
  rw [if_f c1, if_f c1, safe_eq N b p s (by omega), bind_some']
  by_cases c2 : ((p + s : Nat) : Int) < i
  · exact ⟨1, b, p, s, by rw [if_t c2], by rw [if_t c2], h⟩
  rw [if_f c2, if_f c2]
  obtain ⟨i', rfl⟩ : ∃ i' : Nat, i = (i' : Int) := ⟨i.toNat, by omega⟩
  have hl : (b.drop (i' - p)).length = b.length - (i' - p) := by simp
  refine ⟨0, b.drop (i' - p), i', s - (i' - p), ?_, ?_, ⟨by omega, by omega, ?_, h1⟩⟩
  · rw [wrap_i64_id (x := (i' : Int) - p) (by omega) (by omega), if_t (by omega), show ((i' : Int) - p).toNat = i' - p by omega, List.take_length, clone_eq N (by simp; omega), bind_some',
      wrap_i64_id (by omega) (by omega), show (s : Int) - ((i' : Int) - p) = ((s - (i' - p) : Nat) : Int) by omega]
  · rw [show i' + (b.drop (i' - p)).length = p + b.length by omega, show i' + (s - (i' - p)) = p + s by omega]
  · rw [show i' + (b.drop (i' - p)).length = p + b.length by omega]
    conv => lhs; rw [h.eq, List.drop_drop]
    congr 1; omega

theorem cut_same (N : Nat) (i : Int) {n : Nat} {b A : List UInt8} {p s : Nat} (h : Rel n b A p s) (hn : n ≤ 60) :
    ∃ e b' p' s', disk_Disk_Cut_2 N i b (p : Int) (s : Int) = some (e, (b', ((p' : Nat) : Int), (((s' : Nat) : Int), ())))
    ∧ ref06_Disk_Cut_1 N i A (p : Int) ((p + b.length : Nat) : Int) ((p + s : Nat) : Int) = some (e, (A, (((p' : Nat) : Int), (((p' + b'.length : Nat) : Int), (((p' + s' : Nat) : Int), ())))))
    ∧ Rel n b' A p' s' := by
  have h1 := h.few
  have h2 := h.all
  have h3 := h.safe
  unfold disk_Disk_Cut_2 disk_Disk_Cut_2_cps ref06_Disk_Cut_1 ref06_Disk_Cut_1_cps
  by_cases c1 : i < (p : Int)
  · exact ⟨1, b, p, s, by rw [if_t c1], by rw [if_t c1], h⟩
  rw [if_f c1, if_f c1, end_eq N b p s (by omega), bind_some']
  by_cases c2 : ((p + b.length : Nat) : Int) < i
  · exact ⟨1, b, p, s, by rw [if_t c2], by rw [if_t c2], h⟩
  rw [if_f c2, if_f c2]
  obtain ⟨i', rfl⟩ : ∃ i' : Nat, i = (i' : Int) := ⟨i.toNat, by omega⟩
  have hl : (b.take (i' - p)).length = i' - p := by simp; omega
  refine ⟨0, b.take (i' - p), p, i' - p, ?_, ?_, ⟨by omega, by omega, ?_, h1⟩⟩
  · rw [dec_t rfl, cond_true, wrap_i64_id (x := (i' : Int) - p) (by omega) (by omega), if_t (by omega), show ((i' : Int) - p).toNat = i' - p by omega, List.drop_zero, show (i' : Int) - p = ((i' - p : Nat) : Int) by omega]
  · rw [hl, show p + (i' - p) = i' by omega]
  · rw [hl]
    apply List.ext_getElem?; intro q
    conv => lhs; rw [h.eq]
    rw [List.getElem?_take, List.getElem?_drop, List.getElem?_drop, List.getElem?_take, List.getElem?_take]
    by_cases hq : q < i' - p
    · rw [if_pos hq, if_pos (by omega), if_pos (by omega)]
    · rw [if_neg hq, if_neg (by omega)]

theorem round_eq (N : Nat) (x : Int) (n : Nat) (hn : n ≤ 1000000) (h1 : -9223372036854775808 ≤ x) (h2 : x ≤ 9223372036854775807) : ∃ r : Nat, r ≤ n ∧ disk_round N x ((n + 1 : Nat) : Int) = some ((r : Int), ()) := by
  unfold disk_round disk_round_cps
  by_cases h : x < 0
  · rw [if_t h, if_f (by omega), wrap_i64_id (x := x + 1) (by omega) (by omega), wrap_i64_id (by omega) (by omega)]
    obtain ⟨m, hm⟩ : ∃ m : Nat, 0 - (x + 1) = (m : Int) := ⟨(0 - (x + 1)).toNat, by omega⟩
    refine ⟨m % (n + 1), ?_, ?_⟩
    · have := Nat.mod_lt m (show 0 < n + 1 by omega); omega
    · rw [hm, Int.tmod_eq_emod_of_nonneg (by omega)]; rfl
  · rw [if_f h, if_f (by omega)]
    obtain ⟨m, rfl⟩ : ∃ m : Nat, x = (m : Int) := ⟨x.toNat, by omega⟩
    refine ⟨m % (n + 1), ?_, ?_⟩
    · have := Nat.mod_lt m (show 0 < n + 1 by omega); omega
    · rw [Int.tmod_eq_emod_of_nonneg (by omega)]; rfl

theorem power_same (N : Nat) (x : Int) (hx1 : -9223372036854775808 ≤ x) (hx2 : x ≤ 9223372036854775807) {n : Nat} {b A : List UInt8} {p s : Nat} (h : Rel n b A p s) (hn : n ≤ 60) :
    ∃ b' A' s', disk_Disk_Power_2 N x b (p : Int) (s : Int) = some (b, ((p : Int), ((s : Int), (b', ((p : Int), (((s' : Nat) : Int), ()))))))
    ∧ ref06_Disk_Power_1 N x A (p : Int) ((p + b.length : Nat) : Int) ((p + s : Nat) : Int) = some (A, ((p : Int), (((p + b.length : Nat) : Int), (((p + s : Nat) : Int), (A', ((p : Int), (((p + b'.length : Nat) : Int), (((p + s' : Nat) : Int), ()))))))))
    ∧ Rel n b' A' p s' := by
  have h1 := h.few
  have h2 := h.all
  have h3 := h.safe
  obtain ⟨r, hr, er⟩ := round_eq N x (b.length - s) (by omega) hx1 hx2
  have ep : ref06_Pick N x ((b.length - s + 1 : Nat) : Int) = some ((r : Int), ()) := er
  have hl : (b.take (s + r)).length = s + r := by simp; omega
  have hA : (A.take (p + s + r)).length = p + s + r := by simp; omega
  refine ⟨b.take (s + r), A.take (p + s + r), s + r, ?_, ?_, ⟨by omega, by omega, ?_, by omega⟩⟩
  · unfold disk_Disk_Power_2 disk_Disk_Power_2_cps
    rw [wrap_i64_id (x := (b.length : Int) - s) (by omega) (by omega), wrap_i64_id (x := (b.length : Int) - s + 1) (by omega) (by omega),
      show (b.length : Int) - s + 1 = ((b.length - s + 1 : Nat) : Int) by omega, er, bind_some', wrap_i64_id (by omega) (by omega), if_t (by omega),
      List.drop_zero, show ((s : Int) + (r : Int)).toNat = s + r by omega, clone_eq N (by simp; omega), bind_some']
    simp
  · unfold ref06_Disk_Power_1 ref06_Disk_Power_1_cps
    rw [wrap_i64_id (x := ((p + b.length : Nat) : Int) - ((p + s : Nat) : Int)) (by omega) (by omega), wrap_i64_id (x := ((p + b.length : Nat) : Int) - ((p + s : Nat) : Int) + 1) (by omega) (by omega),
      show ((p + b.length : Nat) : Int) - ((p + s : Nat) : Int) + 1 = ((b.length - s + 1 : Nat) : Int) by omega, ep, bind_some', wrap_i64_id (by omega) (by omega), if_t (by omega),
      List.drop_zero, show (((p + s : Nat) : Int) + (r : Int)).toNat = p + s + r by omega, cond_t (room_one (by simp; omega)), List.nil_append, hl,
      show ((p + s : Nat) : Int) + (r : Int) = ((p + (s + r) : Nat) : Int) by omega]
  · rw [hl]
    apply List.ext_getElem?; intro q
    conv => lhs; rw [h.eq]
    rw [List.getElem?_take, List.getElem?_drop, List.getElem?_drop, List.getElem?_take, List.getElem?_take, List.getElem?_take]
    by_cases hq : q < s + r
    · rw [if_pos hq, if_pos (by omega), if_pos (by omega), if_pos (by omega)]
    · rw [if_neg hq, if_neg (by omega)]

abbrev ActD := Int × (Int × (Int × (List UInt8 × Unit)))

theorem plays_j2 (R : Type) (s0 : List ActD) (i : Int) {n : Nat} {b A : List UInt8} {p s : Nat} (h : Rel n b A p s) (hn : n ≤ 60) (k0 : List ActD → Int → Option R) (k1 : List ActD → Bool → Int → Option R) :
    law06_DiskPlays_j2 big R b (p : Int) (s : Int) A (p : Int) ((p + b.length : Nat) : Int) ((p + s : Nat) : Int) k0 k1 s0 i true = k0 s0 i := by
  have h1 := h.few
  have h2 := h.all
  have h3 := h.safe
  obtain ⟨x, e, e1, e2⟩ := read_same big (p : Int) ((p + b.length : Nat) : Int) h hn
  have e3 : e = 0 := by
    unfold disk_Disk_Read_2 disk_Disk_Read_2_cps at e1
    rw [if_f (by omega), if_f (by omega), end_eq big b p s (by omega), bind_some', if_f (by omega), wrap_i64_id (x := ((p + b.length : Nat) : Int) - p) (by omega) (by omega), wrap_i64_id (x := (p : Int) - p) (by omega) (by omega), if_t (by omega), if_t (by omega), clone_eq big (by simp; omega), bind_some'] at e1
    cases e1; rfl
  unfold law06_DiskPlays_j2
  rw [show disk_Disk_Begin_1 big b (p : Int) (s : Int) = some ((p : Int), ()) from rfl, bind_some', end_eq big b p s (by omega), bind_some', safe_eq big b p s (by omega), bind_some', e1, bind_some', e2, bind_some', e3]
  simp

theorem plays_l1 (R : Type) (s0 : List ActD) (i : Int) (ok : Bool) (v1 : List UInt8) (v2 v3 : Int) (v4 : List UInt8) (v5 v6 v7 : Int) (k0 : List ActD → Int → Bool → Option R) :
    ∀ (n j : Nat) (x : List UInt8), x.length ≤ 1000000 → x.length - j < n → law06_DiskPlays_l1 big R v1 v2 v3 v4 v5 v6 v7 k0 n s0 i ok (j : Int) x = k0 s0 i ok
  | 0, j, x, _, h => by omega
  | n + 1, j, x, hx, h => by
    have step : law06_DiskPlays_l1 big R v1 v2 v3 v4 v5 v6 v7 k0 (n + 1) s0 i ok (j : Int) x = law06_DiskPlays_l1B big R v1 v2 v3 v4 v5 v6 v7 (law06_DiskPlays_l1 big R v1 v2 v3 v4 v5 v6 v7 k0 n) k0 s0 i ok (j : Int) x := rfl
    rw [step]
    unfold law06_DiskPlays_l1B
    by_cases hj : j < x.length
    · rw [if_t (by omega), nth_lt hj, bind_some', Int.toNat_natCast, List.getElem?_eq_getElem hj, bind_some', bind_some', bind_some', wrap_succ hj (by omega)]
      exact plays_l1 R s0 i ok v1 v2 v3 v4 v5 v6 v7 k0 n (j + 1) _ (by simpa using hx) (by rw [List.length_set]; omega)
    · rw [if_f (by omega)]

theorem plays_l0 (R : Type) (s0 : List ActD) (hs : ∀ a, a ∈ s0 → InR .i64 a.2.1) (hsl : s0.length ≤ 9223372036854775807) (k0 : Option R) (k1 : Bool → Option R) :
    ∀ (n i : Nat) (b A : List UInt8) (p s : Nat), 60 - i < n → i ≤ 60 → Rel i b A p s → law06_DiskPlays_l0 big R k0 k1 n s0 (i : Int) b (p : Int) (s : Int) A (p : Int) ((p + b.length : Nat) : Int) ((p + s : Nat) : Int) = k0
  | 0, i, b, A, p, s, h, _, _ => by omega
  | n + 1, i, b, A, p, s, h, hi, hv => by
    have step : law06_DiskPlays_l0 big R k0 k1 (n + 1) s0 (i : Int) b (p : Int) (s : Int) A (p : Int) ((p + b.length : Nat) : Int) ((p + s : Nat) : Int) = law06_DiskPlays_l0B big R (law06_DiskPlays_l0 big R k0 k1 n) k0 k1 s0 (i : Int) b (p : Int) (s : Int) A (p : Int) ((p + b.length : Nat) : Int) ((p + s : Nat) : Int) := rfl
    have h1 := hv.few
    have h2 := hv.all
    have h3 := hv.safe
    rw [step]
    unfold law06_DiskPlays_l0B
    by_cases hil : i < s0.length
    case neg => rw [if_f (by omega)]
    rw [if_t (by omega)]
    by_cases h60 : i < 60
    case neg => rw [if_f (by omega)]
    rw [if_t (by omega), nth_lt hil, bind_some']
    have up : ∀ {b A : List UInt8} {p s : Nat}, Rel i b A p s → Rel (i + 1) b A p s := fun h => ⟨h.safe, h.all, h.eq, by have := h.few; omega⟩
    have IH : ∀ (b' A' : List UInt8) (p' s' : Nat), Rel (i + 1) b' A' p' s' → law06_DiskPlays_l0 big R k0 k1 n s0 (IntKind.wrap .i64 ((i : Int) + 1)) b' (p' : Int) (s' : Int) A' (p' : Int) ((p' + b'.length : Nat) : Int) ((p' + s' : Nat) : Int) = k0 := fun b' A' p' s' hr => by
      rw [wrap_succ hil hsl]
      exact plays_l0 R s0 hs hsl k0 k1 n (i + 1) b' A' p' s' (by omega) (by omega) hr
    by_cases h300 : 300 < (s0[i].2.2.2.1.length : Int)
    · rw [if_t h300]; exact IH b A p s (up hv)
    rw [if_f h300]
    cases decide (s0[i].1 = 1) with
    | true =>
      obtain ⟨e1, e2, hr⟩ := append_same big s0[i].2.2.2.1 (by omega) hv (by omega)
      rw [cond_true, cond_t (room_one (by simp; omega)), List.nil_append, e1, bind_some', e2, bind_some', dec_t rfl, cond_true]
      refine (plays_l1 _ s0 (i : Int) _ _ _ _ _ _ _ _ _ big 0 _ (by dsimp only; omega) (big_gt _ (by dsimp only; omega))).trans ?_
      rw [dec_t rfl]
      refine (plays_j2 _ s0 (i : Int) hr (by omega) _ _).trans ?_
      exact IH _ _ _ _ hr
    | false =>
      rw [cond_false]
      cases decide (s0[i].1 = 2) with
      | true =>
        obtain ⟨e1, e2, hr⟩ := sync_same big hv
        rw [cond_true, e1, bind_some', e2, bind_some', dec_t rfl]
        refine (plays_j2 _ s0 (i : Int) hr (by omega) _ _).trans ?_
        exact IH _ _ _ _ (up hr)
      | false =>
        rw [cond_false]
        cases decide (s0[i].1 = 3) with
        | true =>
          obtain ⟨e, b', p', s', e1, e2, hr⟩ := drop_same big s0[i].2.1 hv (by omega)
          unfold law06_DiskPlays_r3
          rw [cond_true, e1, bind_some', e2, bind_some', dec_t rfl]
          refine (plays_j2 _ s0 (i : Int) hr (by omega) _ _).trans ?_
          exact IH _ _ _ _ (up hr)
        | false =>
          rw [cond_false]
          cases decide (s0[i].1 = 4) with
          | true =>
            obtain ⟨e, b', p', s', e1, e2, hr⟩ := cut_same big s0[i].2.1 hv (by omega)
            unfold law06_DiskPlays_r4
            rw [cond_true, e1, bind_some', e2, bind_some', dec_t rfl]
            refine (plays_j2 _ s0 (i : Int) hr (by omega) _ _).trans ?_
            exact IH _ _ _ _ (up hr)
          | false =>
            rw [cond_false]
            cases decide (s0[i].1 = 5) with
            | true =>
              obtain ⟨x, e, e1, e2⟩ := read_same big s0[i].2.1 s0[i].2.2.1 hv (by omega)
              rw [cond_true, e1, bind_some', e2, bind_some', dec_t rfl, cond_true, dec_t rfl]
              refine (plays_j2 _ s0 (i : Int) hv (by omega) _ _).trans ?_
              exact IH _ _ _ _ (up hv)
            | false =>
              rw [cond_false]
              cases decide (s0[i].1 = 6) with
              | true =>
                have hx := hs _ (List.getElem_mem hil)
                obtain ⟨b', A', s', e1, e2, hr⟩ := power_same big s0[i].2.1 hx.1 hx.2 hv (by omega)
                obtain ⟨x, e, e3, e4⟩ := read_same big (p : Int) ((p + b.length : Nat) : Int) hv (by omega)
                have e5 : e = 0 := by
                  unfold disk_Disk_Read_2 disk_Disk_Read_2_cps at e3
                  rw [if_f (by omega), if_f (by omega), end_eq big b p s (by omega), bind_some', if_f (by omega), wrap_i64_id (x := ((p + b.length : Nat) : Int) - p) (by omega) (by omega), wrap_i64_id (x := (p : Int) - p) (by omega) (by omega), if_t (by omega), if_t (by omega), clone_eq big (by simp; omega), bind_some'] at e3
                  cases e3; rfl
                rw [cond_true, e1, bind_some', e2, bind_some', e3, bind_some', e4, bind_some', e5, dec_t rfl, cond_true, dec_t rfl, cond_true, safe_eq big b p s (by omega), bind_some', dec_t rfl]
                refine (plays_j2 _ s0 (i : Int) hr (by omega) _ _).trans ?_
                exact IH _ _ _ _ (up hr)
              | false =>
                rw [cond_false]
                refine (plays_j2 _ s0 (i : Int) hv (by omega) _ _).trans ?_
                exact IH _ _ _ _ (up hv)

theorem DiskPlays_all (s0 : List ActD) (hs : ∀ a, a ∈ s0 → InR .i64 a.2.1) (hsl : s0.length ≤ 9223372036854775807) : law06_DiskPlays big s0 = some (true, ()) := by
  unfold law06_DiskPlays law06_DiskPlays_cps
  rw [show disk_New big = some (0, (0, ())) from rfl, bind_some', alive06]
  exact plays_l0 _ s0 hs hsl _ _ big 0 [] [] 0 0 (big_gt _ (by omega)) (by omega) ⟨by simp, by simp, by simp, by simp⟩

theorem DiskPlays_pure : DiskPlays_Pure := fun x hx => by
  have h3 := hx.1.1
  simp only [Ty.bytes, IntKind.bits] at h3
  exact DiskPlays_all x.1 (fun a ha => (hx.1.2 a ha).2.1) (by omega)

end Go.Proofs.Ytkeejnlicagjiaa.E
