/-
  Plain laws of the pure functions.
  Conditions: those that each statement prints, and no other.
-/
import Derived.Test.YtbikfekdakigiaaGreatDoorPReadTP
import Derived.Test.YtbikfekdakigiaaGreatDoorPMLexLP
set_option linter.unusedVariables false
set_option linter.unusedSimpArgs false
namespace Go.Proofs.YtbikfekdakigiaaGreatDoor.E.L
open Go.Ev
set_option maxRecDepth 100000
theorem byteN (c : UInt8) : UInt8.ofNat c.toNat = c := by simp
theorem rblank_eq (N : Nat) (c : UInt8) : r6_blank N (c.toNat : Int) = some (decide (ofB c = 1), ()) := by
 have key : ∀ k : Fin 256, r6_blank 0 (k.val : Int) = some (decide (ofB (UInt8.ofNat k.val) = 1), ()) := by decide +kernel
 have := key ⟨c.toNat, c.toNat_lt⟩
 rw [byteN] at this; exact this
theorem rletter_eq (N : Nat) (c : UInt8) : r6_letter N (c.toNat : Int) = some (decide (ofB c = 2), ()) := by
 have key : ∀ k : Fin 256, r6_letter 0 (k.val : Int) = some (decide (ofB (UInt8.ofNat k.val) = 2), ()) := by decide +kernel
 have := key ⟨c.toNat, c.toNat_lt⟩
 rw [byteN] at this; exact this
theorem rfigure_eq (N : Nat) (c : UInt8) : r6_figure N (c.toNat : Int) = some (decide (ofB c = 3), ()) := by
 have key : ∀ k : Fin 256, r6_figure 0 (k.val : Int) = some (decide (ofB (UInt8.ofNat k.val) = 3), ()) := by decide +kernel
 have := key ⟨c.toNat, c.toNat_lt⟩
 rw [byteN] at this; exact this
theorem rpart_eq (N : Nat) (c : UInt8) : r6_part N (c.toNat : Int) = some (isPartB c, ()) := by
 have key : ∀ k : Fin 256, r6_part 0 (k.val : Int) = some (isPartB (UInt8.ofNat k.val), ()) := by decide +kernel
 have := key ⟨c.toNat, c.toNat_lt⟩
 rw [byteN] at this; exact this
theorem fig3 (c : UInt8) : isFigB c = true ↔ 48 ≤ c.toNat ∧ c.toNat ≤ 57 := by
 have key : ∀ k : Fin 256, (isFigB (UInt8.ofNat k.val) = true) ↔ 48 ≤ k.val ∧ k.val ≤ 57 := by decide +kernel
 have := key ⟨c.toNat, c.toNat_lt⟩
 rw [byteN] at this; exact this
abbrev RT := Int × Bs × Int × Int × Bs × Int × Unit
def Rk (s : Bs) (o : Option Tk) (v : RT) : Prop := v.2.1.length ≤ s.length ∧ (v.2.1 = [] ∨ ∀ z, o = some z → v.2.1.length = z.2.1.length)
theorem rk_nil {s : Bs} {o : Option Tk} {a b c d : Int} {t : Bs} : Rk s o (a, ([], (b, (c, (t, (d, ())))))) := ⟨Nat.zero_le _, .inl rfl⟩
section
variable {N : Nat} (hN : 1000000 < N)
include hN
theorem rquoted_eq {s : Bs} (hs : s.length ≤ 1000) : r6_quoted N s = some ((match qd (s.drop 1) with
 | some (_, n) => ((1 + n : Nat) : Int)
 | none => 0), ()) := by
 have loop : ∀ (m i fuel : Nat), s.length ≤ i + m → m < fuel → r6_quoted_l0 N (Int × Unit) (some (0, ())) (fun v2 => some (v2, ())) fuel s (i : Int) = some ((match qd (s.drop i) with
  | some (_, n) => ((i + n : Nat) : Int)
  | none => 0), ()) := by
  intro m
  induction m using Nat.strongRecOn with
  | ind m ih =>
   intro i fuel h1 h2
   obtain ⟨f, rfl⟩ : ∃ f, fuel = f + 1 := ⟨fuel - 1, by omega⟩
   show r6_quoted_l0B N _ (r6_quoted_l0 N _ _ _ f) _ _ s (i : Int) = _
   unfold r6_quoted_l0B
   by_cases hi : i < s.length
   · have hw1 := wrap_succ hi (by omega)
     rw [if_t (by omega), nth_lt hi, bind_some', hw1]
     by_cases hq : s[i] = 39
     · rw [cond_f (by rw [dec_t (c39.2 hq)]; rfl)]
       by_cases hl : i + 1 = s.length
       · have e : s.drop i = [s[i]] := by rw [List.drop_eq_getElem_cons hi, List.drop_eq_nil_of_le (by omega)]
         rw [if_f (by omega), e]
         unfold qd
         rw [if_pos hq]
       · have hi1 : i + 1 < s.length := by omega
         have e : s.drop i = s[i] :: s[i + 1] :: s.drop (i + 2) := by rw [List.drop_eq_getElem_cons hi, List.drop_eq_getElem_cons hi1]
         rw [if_t (by omega), nth_lt hi1, bind_some', e]
         unfold qd
         rw [if_pos hq]
         by_cases hq1 : s[i + 1] = 39
         · rw [if_t (c39.2 hq1), if_pos hq1, wrap_succ hi1 (by omega), ih (m - 2) (by omega) (i + 2) f (by omega) (by omega)]
           cases qd (s.drop (i + 2)) with
           | none => rfl
           | some p => obtain ⟨o, n⟩ := p; simp only [Option.map_some]; rw [Nat.add_assoc, Nat.add_comm 2 n]
         · rw [if_f (fun h => hq1 (c39.1 h)), if_neg hq1]
     · rw [cond_t (by rw [dec_f (fun h => hq (c39.1 h))]; rfl), ih (m - 1) (by omega) (i + 1) f (by omega) (by omega)]
       by_cases hl : i + 1 = s.length
       · have e : s.drop i = [s[i]] := by rw [List.drop_eq_getElem_cons hi, List.drop_eq_nil_of_le (by omega)]
         rw [e, List.drop_eq_nil_of_le (by omega)]
         unfold qd
         rw [if_neg hq]
       · have hi1 : i + 1 < s.length := by omega
         have e : s.drop i = s[i] :: s[i + 1] :: s.drop (i + 2) := by rw [List.drop_eq_getElem_cons hi, List.drop_eq_getElem_cons hi1]
         have e1 : s.drop (i + 1) = s[i + 1] :: s.drop (i + 2) := by rw [List.drop_eq_getElem_cons hi1]
         rw [e, e1]
         conv => rhs; unfold qd
         rw [if_neg hq]
         cases qd (s[i + 1] :: s.drop (i + 2)) with
         | none => rfl
         | some p => obtain ⟨o, n⟩ := p; simp only [Option.map_some]; rw [Nat.add_assoc, Nat.add_comm 1 n]
   · rw [if_f (by omega), List.drop_eq_nil_of_le (by omega)]
     rfl
 exact loop s.length 1 N (by omega) (by omega)
theorem small_tot {s : Bs} (hs : s.length ≤ 1000) : Sm (fun v => v.1.length = s.length) (r6_small N s) := by
 have loop : ∀ (m i fuel : Nat) (acc : Bs), i + m = s.length → m < fuel → acc.length = i → Sm (fun v => v.1.length = s.length) (r6_small_l0 N (Bs × Unit) (fun v2 => some (v2, ())) fuel s acc (i : Int)) := by
  intro m
  induction m with
  | zero =>
   intro i fuel acc h1 h2 h3
   obtain ⟨f, rfl⟩ : ∃ f, fuel = f + 1 := ⟨fuel - 1, by omega⟩
   show Sm _ (r6_small_l0B N _ _ _ s acc (i : Int))
   unfold r6_small_l0B
   rw [if_f (by omega)]; exact .mk (by show acc.length = s.length; omega)
  | succ m ih =>
   intro i fuel acc h1 h2 h3
   obtain ⟨f, rfl⟩ : ∃ f, fuel = f + 1 := ⟨fuel - 1, by omega⟩
   show Sm _ (r6_small_l0B N _ (r6_small_l0 N _ _ f) _ s acc (i : Int))
   unfold r6_small_l0B
   rw [wr1 (by omega)]
   have go : ∀ x : UInt8, Sm (fun v => v.1.length = s.length) (bif (room 1 (acc.length + ([x] : List UInt8).length)) then (r6_small_l0 N (Bs × Unit) (fun v2 => some (v2, ())) f s (acc ++ [x]) ((i + 1 : Nat) : Int)) else none) := fun x =>
    sm_r (by simp; omega) (ih (i + 1) f _ (by omega) (by omega) (by simp; omega))
   exact sm_t (by omega) (sm_nth (by omega) fun c => .bif (.bif (go _) (go _)) (go _))
 exact loop s.length 0 N [] (by omega) (by omega) rfl
theorem rtext_ok {s : Bs} (hs : s.length ≤ 1000) : Sm (Rk s (textP s)) (r6_text N s) := by
 unfold r6_text r6_text_cps
 have hQ := rquoted_eq hN hs
 unfold textP
 cases hq : qd (s.drop 1) with
 | none => rw [hq] at hQ; rw [hQ]; exact .mk rk_nil
 | some p =>
  obtain ⟨o, n⟩ := p
  rw [hq] at hQ
  replace hQ : r6_quoted N s = some (((1 + n : Nat) : Int), ()) := hQ
  rw [hQ, bind_some']
  have hl := (qd_le _ _ _ hq).1
  have h1 := (qd_le _ _ _ hq).2
  simp only [List.length_drop] at hl
  dsimp only
  rw [if_f (by omega)]
  refine sm_t (by omega) ?_
  obtain ⟨a, b, c, d, hr⟩ := read_tot hN (List.drop 0 (List.take (Int.toNat ((1 + n : Nat) : Int)) s))
  rw [hr, bind_some']
  refine .bif (.mk rk_nil) (sm_t (by omega) (.mk ?_))
  simp only [Int.toNat_natCast, List.drop_zero]
  refine ⟨by simp; omega, .inr fun z hz => ?_⟩
  split at hz
  · cases hz
  · cases hz; simp only [List.length_take]; omega
theorem rbytes_ok {s : Bs} (h1 : 1 ≤ s.length) (hs : s.length ≤ 1000) : Sm (Rk s (rawP s)) (r6_bytes N s) := by
 unfold r6_bytes r6_bytes_cps
 refine sm_t (by omega) ?_
 rw [List.take_length]
 have hQ := rquoted_eq hN (s := s.drop 1) (by simp; omega)
 rw [List.drop_drop] at hQ
 unfold rawP
 cases hq : qd (s.drop (1 + 1)) with
 | none => rw [hq] at hQ; rw [hQ]; exact .mk rk_nil
 | some p =>
  obtain ⟨o, n⟩ := p
  rw [hq] at hQ
  replace hQ : r6_quoted N (s.drop 1) = some (((1 + n : Nat) : Int), ()) := hQ
  rw [hQ, bind_some']
  have hl := (qd_le _ _ _ hq).1
  have h2 := (qd_le _ _ _ hq).2
  simp only [List.length_drop] at hl
  dsimp only
  rw [if_f (by omega), show IntKind.wrap .i64 (((1 + n : Nat) : Int) + 1) = ((n + 2 : Nat) : Int) by rw [wrap_i64_id (by omega) (by omega)]; omega]
  refine sm_t (by omega) (sm_bind (small_tot hN (by simp; omega)) fun t _ => ?_)
  obtain ⟨a, b, c, d, hr⟩ := read_tot hN t.1
  rw [hr, bind_some']
  refine .bif (.mk rk_nil) (sm_t (by omega) (.mk ?_))
  simp only [Int.toNat_natCast, List.drop_zero]
  refine ⟨by simp; omega, .inr fun z hz => ?_⟩
  split at hz
  · cases hz
  · obtain ⟨v, _, rfl⟩ := Option.map_eq_some_iff.1 hz
    rfl
omit hN in
theorem num_l0 {R : Type} {k0 : Bs → Int → Int → Bs → Int → Int → Bs → Int → Option R} {s : Bs} (hs : s.length ≤ 1000) {a : Int} {b : Bs} {c d : Int} {e : Bs} {g : Int} : ∀ (m i fuel : Nat), i + m = s.length → m < fuel →
 r6_number_l0 N R k0 fuel s (i : Int) a b c d e g = k0 s ((i + spn isFigB (s.drop i) : Nat) : Int) a b c d e g := by
 intro m
 induction m with
 | zero =>
  intro i fuel h1 h2
  obtain ⟨f, rfl⟩ : ∃ f, fuel = f + 1 := ⟨fuel - 1, by omega⟩
  show r6_number_l0B N R _ k0 s (i : Int) a b c d e g = _
  unfold r6_number_l0B
  rw [if_f (by omega), List.drop_eq_nil_of_le (by omega)]; rfl
 | succ m ih =>
  intro i fuel h1 h2
  obtain ⟨f, rfl⟩ : ∃ f, fuel = f + 1 := ⟨fuel - 1, by omega⟩
  show r6_number_l0B N R (r6_number_l0 N R k0 f) k0 s (i : Int) a b c d e g = _
  unfold r6_number_l0B
  have hi : i < s.length := by omega
  have h3 := fig3 s[i]
  rw [if_t (by omega), nth_lt hi, bind_some', bind_some', wrap_succ hi (by omega), List.drop_eq_getElem_cons hi, spn_cons]
  by_cases hf : isFigB s[i] = true
  · have := h3.1 hf
    rw [if_t (by omega), if_t (by omega), ih (i + 1) f (by omega) (by omega), if_pos hf]
    congr 2; omega
  · rw [if_neg hf]
    by_cases h48 : 48 ≤ s[i].toNat
    · rw [if_t (by omega), if_f (fun h => hf (h3.2 ⟨h48, by omega⟩))]; rfl
    · rw [if_f (by omega)]; rfl
omit hN in
theorem num_l2 {R : Type} {k0 : Bs → Int → Int → Int → Bs → Int → Int → Bs → Int → Option R} {s : Bs} (hs : s.length ≤ 1000) {w a : Int} {b : Bs} {c d : Int} {e : Bs} {g : Int} : ∀ (m i fuel : Nat), s.length ≤ i + m → m < fuel → i ≤ 2000 →
 r6_number_l2 N R k0 fuel s (i : Int) w a b c d e g = k0 s ((i + spn isFigB (s.drop i) : Nat) : Int) w a b c d e g := by
 intro m
 induction m with
 | zero =>
  intro i fuel h1 h2 h3
  obtain ⟨f, rfl⟩ : ∃ f, fuel = f + 1 := ⟨fuel - 1, by omega⟩
  show r6_number_l2B N R _ k0 s (i : Int) w a b c d e g = _
  unfold r6_number_l2B
  rw [if_f (by omega), List.drop_eq_nil_of_le (by omega)]; rfl
 | succ m ih =>
  intro i fuel h1 h2 h4
  obtain ⟨f, rfl⟩ : ∃ f, fuel = f + 1 := ⟨fuel - 1, by omega⟩
  show r6_number_l2B N R (r6_number_l2 N R k0 f) k0 s (i : Int) w a b c d e g = _
  unfold r6_number_l2B
  by_cases hi : i < s.length
  · have h3 := fig3 s[i]
    rw [if_t (by omega), nth_lt hi, bind_some', bind_some', wrap_succ hi (by omega), List.drop_eq_getElem_cons hi, spn_cons]
    by_cases hf : isFigB s[i] = true
    · have := h3.1 hf
      rw [if_t (by omega), if_t (by omega), ih (i + 1) f (by omega) (by omega) (by omega), if_pos hf]
      congr 2; omega
    · rw [if_neg hf]
      by_cases h48 : 48 ≤ s[i].toNat
      · rw [if_t (by omega), if_f (fun h => hf (h3.2 ⟨h48, by omega⟩))]; rfl
      · rw [if_f (by omega)]; rfl
  · rw [if_f (by omega), List.drop_eq_nil_of_le (by omega)]; rfl
theorem num_j4 {R : Type} {P : R → Prop} {k0 : Int → Bs → Int → Int → Bs → Int → Option R} {s : Bs} (hs : s.length ≤ 1000) {n i : Nat} (h1 : n ≤ i) (h2 : i ≤ s.length) (hk : ∀ a t b c d, (t = [] ∨ t = s.take i) → Sm P (k0 a t b c d 0))
 {a : Int} {b : Bs} {c d : Int} {e : Bs} {g : Int} : Sm P (r6_number_j4 N R k0 s (i : Int) (n : Int) a b c d e g) := by
 have j7 : ∀ (t : Bs), Sm P (r6_number_j7 N R k0 s (i : Int) t a b c d e g) := by
  intro t
  unfold r6_number_j7
  obtain ⟨x, y, z, w, hr⟩ := read_tot hN t
  rw [hr, bind_some']
  refine .bif (hk _ _ _ _ _ (.inl rfl)) (sm_t (by omega) (hk _ _ _ _ _ (.inr ?_)))
  rw [Int.toNat_natCast, List.drop_zero]
 have l6 : ∀ (m : Nat) (k : Nat) (fuel : Nat) (t : Bs), 5 ≤ k + m → k ≤ 2000 → m < fuel → t.length ≤ 3000 + k → Sm P (r6_number_l6 N R (fun v142 v143 v144 v145 v146 v147 v148 v149 v150 => r6_number_j7 N R (fun v151 v152 v153 v154 v155 v156 => k0 v151 v152 v153 v154 v155 v156) v142 v143 v144 v145 v146 v147 v148 v149 v150) fuel s (i : Int) t (k : Int) a b c d e g) := by
  intro m
  induction m with
  | zero =>
   intro k fuel t h1 h2 h3 h4
   obtain ⟨f, rfl⟩ : ∃ f, fuel = f + 1 := ⟨fuel - 1, by omega⟩
   show Sm P (r6_number_l6B N R _ _ s (i : Int) t (k : Int) a b c d e g)
   unfold r6_number_l6B
   rw [if_f (by omega)]; exact j7 t
  | succ m ih =>
   intro k fuel t h1 h2 h3 h4
   obtain ⟨f, rfl⟩ : ∃ f, fuel = f + 1 := ⟨fuel - 1, by omega⟩
   show Sm P (r6_number_l6B N R (r6_number_l6 N R _ f) _ s (i : Int) t (k : Int) a b c d e g)
   unfold r6_number_l6B
   by_cases hk5 : k < 5
   · rw [wr1 (by omega)]
     exact sm_t (by omega) (sm_r (by simp; omega) (ih (k + 1) f _ (by omega) (by omega) (by omega) (by simp; omega)))
   · rw [if_f (by omega)]; exact j7 t
 have l5 : ∀ (m fuel : Nat) (t : Bs) {kk : Bs → Int → Int → Bs → Int → Bs → Int → Int → Bs → Int → Option R}, (∀ t' : Bs, t'.length ≤ 1000 → Sm P (kk s (i : Int) (n : Int) t' a b c d e g)) → t.length ≤ m → t.length ≤ 1000 → m < fuel → Sm P (r6_number_l5 N R kk fuel s (i : Int) (n : Int) t a b c d e g) := by
  intro m
  induction m with
  | zero =>
   intro fuel t kk hkk h1 h2 h3
   obtain ⟨f, rfl⟩ : ∃ f, fuel = f + 1 := ⟨fuel - 1, by omega⟩
   show Sm P (r6_number_l5B N R _ kk s (i : Int) (n : Int) t a b c d e g)
   unfold r6_number_l5B
   rw [if_f (by omega)]; exact hkk t h2
  | succ m ih =>
   intro fuel t kk hkk h1 h2 h3
   obtain ⟨f, rfl⟩ : ∃ f, fuel = f + 1 := ⟨fuel - 1, by omega⟩
   show Sm P (r6_number_l5B N R (r6_number_l5 N R kk f) kk s (i : Int) (n : Int) t a b c d e g)
   unfold r6_number_l5B
   by_cases ht : 1 < t.length
   · exact sm_t (by omega) (sm_nth (i := 0) (by omega) fun c => .bif (sm_t (by omega) (ih f _ hkk (by simp; omega) (by simp; omega) (by omega))) (hkk t h2))
   · rw [if_f (by omega)]; exact hkk t h2
 unfold r6_number_j4
 refine sm_t (by omega) (l5 1000 N _ (fun t' ht => ?_) (by simp; omega) (by simp; omega) (by omega))
 by_cases h : n < i
 · refine sm_t (by omega) (sm_t (by omega) (sm_t (by omega) (sm_r (by simp; omega) ?_)))
   rw [show IntKind.wrap .i64 ((i : Int) - (n : Int)) = ((i - n : Nat) : Int) by rw [wrap_i64_id (by omega) (by omega)]; omega]
   exact l6 5 (i - n) N _ (by omega) (by omega) (by omega) (by simp; omega)
 · rw [if_f (by omega)]; exact j7 t'
theorem num_j3 {R : Type} {P : R → Prop} {k0 : Int → Bs → Int → Int → Bs → Int → Option R} {s : Bs} (hs : s.length ≤ 1000) {n i : Nat} (h1 : n ≤ i) (h2 : i ≤ s.length) (hk : ∀ a t b c d, (t = [] ∨ t = s.take i) → Sm P (k0 a t b c d 0))
 {a : Int} {b : Bs} {c d : Int} {e : Bs} {g : Int} : Sm P (r6_number_j3 N R k0 s (i : Int) (n : Int) a b c d e g) := by
 unfold r6_number_j3
 have j4 := num_j4 hN (a := a) (b := b) (c := c) (d := d) (e := e) (g := g) hs h1 h2 hk
 by_cases hi : i < s.length
 · rw [if_t (by omega), nth_lt hi, bind_some', rpart_eq, bind_some', bind_some']
   exact .bif (hk _ _ _ _ _ (.inl rfl)) (.bif (hk _ _ _ _ _ (.inl rfl)) j4)
 · rw [if_f (by omega)]; exact j4
omit hN in
theorem numP_len {s : Bs} {z : Tk} (h : numP s = some z) : z.2.1 = s.take (if [46] <+: s.drop (spn isFigB s) then spn isFigB s + 1 + spn isFigB (s.drop (spn isFigB s + 1)) else spn isFigB s) := by
 unfold numP at h
 dsimp only at h
 split at h
 · rename_i hp
   rw [if_pos hp]
   split at h
   · cases h
   · obtain ⟨rfl, _⟩ := numEnd_some h
     rw [List.drop_drop]
 · rename_i hp
   rw [if_neg hp]
   obtain ⟨rfl, _⟩ := numEnd_some h
   rfl
theorem rnumber_ok {s : Bs} (hs : s.length ≤ 1000) : Sm (Rk s (numP s)) (r6_number N s) := by
 unfold r6_number r6_number_cps
 rw [show (0 : Int) = ((0 : Nat) : Int) from rfl, num_l0 hs s.length 0 N (by omega) (by omega)]
 simp only [List.drop_zero, Nat.zero_add]
 have hn := spn_le isFigB s
 generalize hnn : spn isFigB s = n at *
 have fin : ∀ (i : Nat), i ≤ s.length → (∀ z, numP s = some z → z.2.1 = s.take i) → ∀ a t b c d, (t = [] ∨ t = s.take i) → Sm (Rk s (numP s)) (some (a, (t, (b, (c, (d, ((0 : Int), ()))))))) := by
  intro i hi hz a t b c d ht
  refine .mk ?_
  rcases ht with rfl | rfl
  · exact rk_nil
  · exact ⟨by simp; omega, .inr fun z h => by rw [hz z h]⟩
 have dot : ∀ (x y : Int) (t u : Bs) (z w : Int), n < s.length → [46] <+: s.drop n → Sm (Rk s (numP s)) (r6_number_j1 N RT (fun v11 v12 v13 v14 v15 v16 v17 v18 v19 => r6_number_j3 N RT (fun v20 v21 v22 v23 v24 v25 => some (v20, (v21, (v22, (v23, (v24, (v25, ()))))))) v11 v12 v13 v14 v15 v16 v17 v18 v19) (fun v26 v27 v28 v29 v30 v31 v32 v33 v34 => some (v29, (v30, (v31, (v32, (v33, (v34, ()))))))) s (n : Int) (n : Int) true x t y z u w) := by
  intro x y t u z w hl hp
  unfold r6_number_j1
  rw [cond_t rfl, wr1 (by omega), num_l2 hs s.length (n + 1) N (by omega) (by omega) (by omega)]
  have hk := spn_le isFigB (s.drop (n + 1))
  simp only [List.length_drop] at hk
  generalize hkk : spn isFigB (s.drop (n + 1)) = k at *
  rw [show IntKind.wrap .i64 ((n : Int) + 5) = ((n + 5 : Nat) : Int) from wr (by omega) 5 (by decide)]
  refine .bif (.mk rk_nil) (.bif (.mk rk_nil) ?_)
  refine num_j3 hN hs (by omega) (by omega) (fin (n + 1 + k) (by omega) fun z hz => ?_)
  have := numP_len hz
  rw [hnn, if_pos hp, hkk] at this
  exact this
 have nodot : ∀ (x y : Int) (t u : Bs) (z w : Int), ¬ [46] <+: s.drop n → Sm (Rk s (numP s)) (r6_number_j1 N RT (fun v11 v12 v13 v14 v15 v16 v17 v18 v19 => r6_number_j3 N RT (fun v20 v21 v22 v23 v24 v25 => some (v20, (v21, (v22, (v23, (v24, (v25, ()))))))) v11 v12 v13 v14 v15 v16 v17 v18 v19) (fun v26 v27 v28 v29 v30 v31 v32 v33 v34 => some (v29, (v30, (v31, (v32, (v33, (v34, ()))))))) s (n : Int) (n : Int) false x t y z u w) := by
  intro x y t u z w hp
  unfold r6_number_j1
  rw [cond_f rfl]
  refine num_j3 hN hs (Nat.le_refl _) hn (fin n hn fun z hz => ?_)
  have := numP_len hz
  rw [hnn, if_neg hp] at this
  exact this
 by_cases hl : n < s.length
 · rw [if_t (by omega), nth_lt hl, bind_some']
   have e := List.drop_eq_getElem_cons hl
   by_cases h46 : s[n] = 46
   · rw [show decide ((s[n].toNat : Int) = 46) = true from decide_eq_true (by rw [h46]; rfl)]
     exact dot _ _ _ _ _ _ hl (by rw [e, h46]; exact ⟨_, rfl⟩)
   · rw [show decide ((s[n].toNat : Int) = 46) = false from decide_eq_false (fun h => h46 (UInt8.toNat_inj.1 (by show s[n].toNat = 46; omega)))]
     refine nodot _ _ _ _ _ _ (fun hp => h46 ?_)
     rw [e] at hp
     exact (List.cons_prefix_cons.1 hp).1.symm
 · rw [if_f (by omega)]
   refine nodot _ _ _ _ _ _ (fun hp => ?_)
   rw [List.drop_eq_nil_of_le (by omega)] at hp
   exact absurd hp (by simp)
end
end Go.Proofs.YtbikfekdakigiaaGreatDoor.E.L
