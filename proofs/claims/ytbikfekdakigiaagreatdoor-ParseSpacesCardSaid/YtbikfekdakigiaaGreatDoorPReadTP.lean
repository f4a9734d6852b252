/-
  Plain laws of the pure functions.
  Conditions: those that each statement prints, and no other.
-/
import Derived.Test.YtbikfekdakigiaaGreatDoorGPSF
import Derived.Test.YtbikfekdakigiaaGreatDoorEvA
set_option linter.unusedVariables false
set_option linter.unusedSimpArgs false
namespace Go.Proofs.YtbikfekdakigiaaGreatDoor.E.L
open Go.Ev
set_option maxRecDepth 100000
def Sm {R : Type} (P : R → Prop) (x : Option R) : Prop := ∃ r, x = some r ∧ P r
section
variable {R : Type} {P : R → Prop}
theorem Sm.bif {b : Bool} {x y : Option R} (h : Sm P x) (h' : Sm P y) : Sm P (bif b then x else y) := by cases b <;> assumption
theorem Sm.mk {r : R} (h : P r) : Sm P (some r) := ⟨r, rfl, h⟩
theorem rm1 {n : Nat} (h : n ≤ 1000000) : room 1 n = true := by unfold room; rw [decide_eq_true_iff]; omega
theorem sm_t {p : Prop} [Decidable p] {x y : Option R} (h : p) (hx : Sm P x) : Sm P (bif decide p then x else y) := by rw [if_t h]; exact hx
theorem sm_r {n : Nat} {x y : Option R} (h : n ≤ 1000000) (hx : Sm P x) : Sm P (bif room 1 n then x else y) := by rw [cond_t (rm1 h)]; exact hx
theorem sm_nth {α : Type} {l : List α} {i : Nat} (hi : i < l.length) {k : α → Option R} (h : ∀ a, Sm P (k a)) : Sm P (Option.bind (nth l (i : Int)) k) := by
 rw [nth_lt hi, bind_some']; exact h _
theorem sm_bind {α : Type} {Q : α → Prop} {x : Option α} (hx : Sm Q x) {k : α → Option R} (h : ∀ a, Q a → Sm P (k a)) : Sm P (Option.bind x k) := by
 obtain ⟨a, ha, hq⟩ := hx
 rw [ha, bind_some']; exact h a hq
end
abbrev Any {R : Type} (_ : R) : Prop := True
theorem wr {i : Nat} (h : i ≤ 100000) (j : Nat) (hj : j ≤ 10) : IntKind.wrap .i64 ((i : Int) + (j : Int)) = ((i + j : Nat) : Int) := by rw [wrap_i64_id (by omega) (by omega)]; omega
theorem wr1 {i : Nat} (h : i ≤ 100000) : IntKind.wrap .i64 ((i : Int) + 1) = ((i + 1 : Nat) : Int) := wr h 1 (by decide)
section
variable {N : Nat} (hN : 1000000 < N)
include hN
theorem hex_tot (c : Int) : Sm Any (r2_hex N c) := by
 have loop : ∀ (m i fuel : Nat), i + m = 16 → m < fuel → Sm Any (r2_hex_l0 N (Int × Unit) (some (-1, ())) (fun v2 => some (v2, ())) fuel c (i : Int)) := by
  intro m
  induction m with
  | zero =>
   intro i fuel h1 h2
   obtain ⟨f, rfl⟩ : ∃ f, fuel = f + 1 := ⟨fuel - 1, by omega⟩
   show Sm Any (r2_hex_l0B N _ _ _ _ c (i : Int))
   unfold r2_hex_l0B
   rw [if_f (by omega)]; exact .mk trivial
  | succ m ih =>
   intro i fuel h1 h2
   obtain ⟨f, rfl⟩ : ∃ f, fuel = f + 1 := ⟨fuel - 1, by omega⟩
   show Sm Any (r2_hex_l0B N _ (r2_hex_l0 N _ _ _ f) _ _ c (i : Int))
   unfold r2_hex_l0B
   refine sm_t (by omega) (sm_nth (by simp; omega) fun a => .bif (.mk trivial) ?_)
   rw [wr1 (by omega)]
   exact ih (i + 1) f (by omega) (by omega)
 exact loop 16 0 N (by omega) (by omega)
theorem figures_tot {s : List UInt8} (hs : s.length ≤ 1000) (b : Bool) : Sm Any (r2_figures N s b) := by
 have loop : ∀ {R : Type} {k0 : List UInt8 → Bool → Int → Option R} {k1 : List UInt8 → Bool → Int → Bool → Int → Option R}, (∀ a b c, Sm Any (k0 a b c)) → (∀ a b c d e, Sm Any (k1 a b c d e)) →
  ∀ (m i fuel : Nat) (x y : Int), i + m = s.length → m < fuel → Sm Any (r2_figures_l1 N R k0 k1 fuel s b x y (i : Int)) := by
  intro R k0 k1 h0 h1 m
  induction m with
  | zero =>
   intro i fuel x y e1 e2
   obtain ⟨f, rfl⟩ : ∃ f, fuel = f + 1 := ⟨fuel - 1, by omega⟩
   show Sm Any (r2_figures_l1B N _ _ _ _ s b x y (i : Int))
   unfold r2_figures_l1B
   rw [if_f (by omega)]; exact h0 _ _ _
  | succ m ih =>
   intro i fuel x y e1 e2
   obtain ⟨f, rfl⟩ : ∃ f, fuel = f + 1 := ⟨fuel - 1, by omega⟩
   show Sm Any (r2_figures_l1B N _ (r2_figures_l1 N _ _ _ f) _ _ s b x y (i : Int))
   unfold r2_figures_l1B r2_figures_j2
   refine sm_t (by omega) (sm_nth (by omega) fun a => .bif (h1 _ _ _ _ _) (sm_nth (by omega) fun a => .bif (h1 _ _ _ _ _) (sm_nth (by omega) fun a => .bif (h1 _ _ _ _ _) ?_)))
   dsimp only
   rw [wr1 (by omega)]
   exact ih (i + 1) f _ _ (by omega) (by omega)
 have j0 : ∀ y : Int, Sm Any (r2_figures_j0 N (Int × Bool × Unit) (fun a c => some (a, (c, ()))) s b 0 y) := fun y => by
  unfold r2_figures_j0
  exact loop (fun _ _ _ => .bif (.bif (.mk trivial) (.mk trivial)) (.mk trivial)) (fun _ _ _ _ _ => .mk trivial) s.length 0 N 0 y (by omega) (by omega)
 unfold r2_figures r2_figures_cps
 exact .bif (j0 _) (j0 _)
theorem j4_tot {R : Type} {P : R → Prop} {k0 : Int → Int → List UInt8 → Option R} (h0 : ∀ a b, Sm P (k0 a b [])) {s : List UInt8} (hs : s.length ≤ 1000) {a b : Int} {c : List UInt8} : Sm P (r2_guess_j4 N R k0 s a b c) := by
 have j6 : ∀ (n : Bool) (t : List UInt8), t.length ≤ 1000 → Sm P (r2_guess_j6 N R k0 n t a b c) := by
  intro n t ht
  unfold r2_guess_j6
  have fin : ∀ x y, Sm P (Option.bind (r2_figures N x y) fun v112 => (bif v112.2.1 then k0 2 v112.1 [] else k0 0 1 [])) ∨ 1000 < x.length := fun x y => by
   by_cases h : x.length ≤ 1000
   · exact .inl (sm_bind (figures_tot hN h y) fun _ _ => .bif (h0 _ _) (h0 _ _))
   · exact .inr (by omega)
  by_cases hl : 5 < t.length
  · have e : IntKind.wrap .i64 ((t.length : Int) - 5) = ((t.length - 5 : Nat) : Int) := by rw [wrap_i64_id (by omega) (by omega)]; omega
    rw [e]
    refine sm_t (by omega) (sm_nth (by omega) fun x => ?_)
    unfold r2_guess_j7 r2_guess_r8
    rw [wr1 (by omega)]
    refine .bif (sm_t (by omega) (sm_t (by omega) (sm_r (by simp; omega) (sm_bind (figures_tot hN (by simp; omega) n) fun _ _ => .bif (h0 _ _) (h0 _ _))))) ?_
    exact (fin t n).resolve_right (by omega)
  · rw [if_f (by rw [wrap_i64_id (by omega) (by omega)]; omega)]
    unfold r2_guess_j7
    rw [cond_f rfl]
    exact (fin t n).resolve_right (by omega)
 unfold r2_guess_j4 r2_guess_j5
 by_cases hl : 0 < s.length
 · refine sm_t (by omega) (sm_nth (i := 0) hl fun x => .bif (sm_t (by omega) (j6 _ _ (by simp; omega))) (j6 _ _ hs))
 · rw [if_f (by omega), cond_f rfl]
   exact j6 _ _ hs
theorem guess_tot {s : List UInt8} (hs : s.length ≤ 1000) : Sm (fun v => v.2.2.1.length ≤ 2000) (r2_guess N s) := by
 have fn : ∀ (R : Type) (P : R → Prop) (k : Int → Int → List UInt8 → Option R), (∀ a b c, c.length ≤ 2000 → Sm P (k a b c)) → Sm P (r2_guess_cps N R k s) := by
  intro R P k hk
  have l3 : ∀ (m i fuel : Nat) (acc : List UInt8), s.length ≤ i + m → m < fuel → acc.length ≤ i → i ≤ s.length + 2 → Sm P (r2_guess_l3 N R (fun v68 v69 v70 v71 => k 4 0 v68) fuel s acc (i : Int) 0 0 []) := by
   intro m
   induction m using Nat.strongRecOn with
   | ind m ih =>
    intro i fuel acc h1 h2 h3 h4
    obtain ⟨f, rfl⟩ : ∃ f, fuel = f + 1 := ⟨fuel - 1, by omega⟩
    show Sm P (r2_guess_l3B N _ (r2_guess_l3 N _ _ f) _ s acc (i : Int) 0 0 [])
    unfold r2_guess_l3B
    rw [wr1 (by omega)]
    by_cases hi : i + 1 < s.length
    · refine sm_t (by omega) (sm_t (by omega) (sm_t (by omega) (sm_r (by simp; omega) (sm_nth (by omega) fun a => .bif ?_ ?_))))
      · rw [wr1 (by omega)]
        by_cases hm : i + 2 < s.length
        · exact ih (m - 2) (by omega) (i + 1 + 1) f _ (by omega) (by omega) (by simp; omega) (by omega)
        · exact ih (m - 1) (by omega) (i + 1 + 1) f _ (by omega) (by omega) (by simp; omega) (by omega)
      · exact ih (m - 1) (by omega) (i + 1) f _ (by omega) (by omega) (by simp; omega) (by omega)
    · rw [if_f (by omega)]
      exact hk _ _ _ (by omega)
  have l1 : ∀ (m i fuel : Nat) (acc : List UInt8), s.length ≤ i + m → m < fuel → acc.length ≤ i → i ≤ s.length + 2 → Sm P (r2_guess_l1 N R (fun v30 v31 v32 v33 => k 5 0 v30) (fun v34 v35 v36 v37 => k v35 v36 v37) fuel s acc (i : Int) 0 0 []) := by
   intro m
   induction m using Nat.strongRecOn with
   | ind m ih =>
    intro i fuel acc h1 h2 h3 h4
    obtain ⟨f, rfl⟩ : ∃ f, fuel = f + 1 := ⟨fuel - 1, by omega⟩
    show Sm P (r2_guess_l1B N _ (r2_guess_l1 N _ _ _ f) _ _ s acc (i : Int) 0 0 [])
    unfold r2_guess_l1B
    rw [wr1 (by omega), show IntKind.wrap .i64 ((i : Int) + 2) = ((i + 2 : Nat) : Int) from wr (by omega) 2 (by decide)]
    by_cases hi : i + 2 < s.length
    · refine sm_t (by omega) (sm_nth (by omega) fun a => sm_bind (hex_tot hN _) fun _ _ => sm_nth (by omega) fun b => sm_bind (hex_tot hN _) fun _ _ => .bif (hk _ _ _ (by simp)) (.bif (hk _ _ _ (by simp)) (sm_r (by simp; omega) ?_)))
      exact ih (m - 2) (by omega) (i + 2) f _ (by omega) (by omega) (by simp; omega) (by omega)
    · rw [if_f (by omega)]
      exact hk _ _ _ (by omega)
  have j0 : ∀ b, Sm P (r2_guess_j0 N R (fun v5 v6 v7 v8 => r2_guess_j4 N R (fun v9 v10 v11 => k v9 v10 v11) v5 v6 v7 v8) (fun v12 v13 v14 => k v12 v13 v14) s b 0 0 []) := by
   intro b
   have j4 : Sm P (r2_guess_j4 N R (fun v9 v10 v11 => k v9 v10 v11) s 0 0 []) := j4_tot hN (fun a b => hk a b [] (by simp)) hs
   unfold r2_guess_j0
   refine .bif (l1 s.length 2 N [] (by omega) (by omega) (by simp) (by omega)) ?_
   unfold r2_guess_j2
   by_cases hl : 1 < s.length
   · exact sm_t (by omega) (sm_nth (i := 0) (by omega) fun a => .bif (l3 s.length 1 N [] (by omega) (by omega) (by simp) (by omega)) j4)
   · rw [if_f (by omega), cond_f rfl]; exact j4
  unfold r2_guess_cps
  refine .bif (hk _ _ _ (by simp)) (.bif (sm_bind (x := r2_Of N 0) (Q := fun a => a = (1, (0, ([], ())))) (.mk rfl) fun a ha => ?_) (.bif (sm_bind (x := r2_Of N 1) (Q := fun a => a = (1, (1, ([], ())))) (.mk rfl) fun a ha => ?_) ?_))
  · rw [ha]; exact hk _ _ _ (by simp)
  · rw [ha]; exact hk _ _ _ (by simp)
  · by_cases hl : 2 < s.length
    · exact sm_t (by omega) (sm_nth (i := 0) (by omega) fun a => j0 _)
    · rw [if_f (by omega)]; exact j0 _
 exact fn _ _ _ fun a b c h => .mk h
omit hN in
theorem right_tot (k n : Int) (s : List UInt8) : Sm Any (r2_Right N k n s) := by
 have j0 : ∀ {k0 : Int → Int → List UInt8 → Option (Bool × Unit)} {k1 : Bool → Int → Int → List UInt8 → Option (Bool × Unit)}, (∀ a b c, Sm Any (k0 a b c)) → (∀ a b c d, Sm Any (k1 a b c d)) → ∀ b, Sm Any (r2_Right_j0 N (Bool × Unit) k0 k1 k b k n s) := by
  intro k0 k1 h0 h1 b
  unfold r2_Right_j0
  exact .bif (h1 _ _ _ _) (.bif (.bif (h1 _ _ _ _) (h1 _ _ _ _)) (.bif (.bif (h1 _ _ _ _) (h1 _ _ _ _)) (h0 _ _ _)))
 unfold r2_Right r2_Right_cps
 have z : ∀ b : Bool, Sm Any (some (b, ())) := fun _ => .mk trivial
 exact .bif (.bif (z _) (z _)) (.bif (.bif (z _) (.bif (z _) (z _))) (.bif (j0 (fun _ _ _ => z _) (fun _ _ _ _ => z _) _) (j0 (fun _ _ _ => z _) (fun _ _ _ _ => z _) _)))
theorem digits_tot {u least : Nat} (hu : u < 10 ^ 20) (hl : least ≤ 4) : Sm (fun v => v.1.length ≤ 100) (r2_digits N (u : Int) (least : Int)) := by
 have cut : ∀ {R : Type} {P : R → Prop} {w : Nat} {acc : List UInt8} {g : List UInt8 → Option R}, w < 10 → acc.length ≤ 100 → (∀ a, a.length = acc.length + 1 → Sm P (g a)) →
  Sm P (bif (decide (0 ≤ (IntKind.wrap .u64 ((w : Int) + 1)) ∧ (IntKind.wrap .u64 ((w : Int) + 1)) ≤ ((10 : Nat) : Int))) then
   (bif (decide (0 ≤ (w : Int) ∧ (w : Int) ≤ (((Int.toNat (IntKind.wrap .u64 ((w : Int) + 1))) : Nat) : Int))) then
   (bif (room 1 ((List.drop (Int.toNat (w : Int)) (List.take (Int.toNat (IntKind.wrap .u64 ((w : Int) + 1))) ([48, 49, 50, 51, 52, 53, 54, 55, 56, 57] : List UInt8))).length + acc.length)) then
   g ((List.drop (Int.toNat (w : Int)) (List.take (Int.toNat (IntKind.wrap .u64 ((w : Int) + 1))) ([48, 49, 50, 51, 52, 53, 54, 55, 56, 57] : List UInt8))) ++ acc) else none) else none) else none) := by
  intro R P w acc g hw ha hg
  have e : IntKind.wrap .u64 ((w : Int) + 1) = ((w + 1 : Nat) : Int) := by rw [wrap_u64_id (by omega) (by omega)]; omega
  rw [e]
  refine sm_t (by omega) (sm_t (by omega) (sm_r ?_ (hg _ ?_)))
  · simp; omega
  · simp; omega
 have loop : ∀ (M m u fuel : Nat) (acc : List UInt8), m + (4 - acc.length) ≤ M → u < 10 ^ m → M < fuel → acc.length + m ≤ 60 → Sm (fun v => v.1.length ≤ 100) (r2_digits_l0 N (List UInt8 × Unit) (fun v3 => some (v3, ())) fuel (u : Int) (least : Int) acc) := by
  intro M
  induction M with
  | zero =>
   intro m u fuel acc h1 h2 h3 h4
   obtain ⟨f, rfl⟩ : ∃ f, fuel = f + 1 := ⟨fuel - 1, by omega⟩
   obtain rfl : m = 0 := by omega
   show Sm _ (r2_digits_l0B N _ _ _ (u : Int) (least : Int) acc)
   unfold r2_digits_l0B
   rw [if_f (by omega), if_f (by omega)]
   exact .mk (by show acc.length ≤ 100; omega)
  | succ M ih =>
   intro m u fuel acc h1 h2 h3 h4
   obtain ⟨f, rfl⟩ : ∃ f, fuel = f + 1 := ⟨fuel - 1, by omega⟩
   show Sm _ (r2_digits_l0B N _ (r2_digits_l0 N _ _ f) _ (u : Int) (least : Int) acc)
   unfold r2_digits_l0B
   rw [show Int.tmod (u : Int) 10 = ((u % 10 : Nat) : Int) from by rw [Int.tmod_eq_emod_of_nonneg (by omega)]; omega, show Int.tdiv (u : Int) 10 = ((u / 10 : Nat) : Int) from by rw [Int.tdiv_eq_ediv_of_nonneg (by omega)]; omega]
   by_cases hu : 0 < u
   · rw [if_t (by omega)]
     obtain ⟨k, rfl⟩ : ∃ k, m = k + 1 := ⟨m - 1, by
      have : m ≠ 0 := by rintro rfl; simp at h2; omega
      omega⟩
     have hd : u / 10 < 10 ^ k := by rw [Nat.pow_succ] at h2; omega
     refine cut (Nat.mod_lt _ (by decide)) (by omega) fun a ha => ?_
     have hb : (u / 10 : Nat) < 18446744073709551616 ∨ True := .inr trivial
     by_cases h64 : u / 10 < 18446744073709551616
     · rw [wrap_u64_id (by omega) (by omega)]
       exact ih k (u / 10) f a (by omega) hd (by omega) (by omega)
     · rw [wrap_u64]
       rw [show ((u / 10 : Nat) : Int) % 18446744073709551616 = ((u / 10 % 18446744073709551616 : Nat) : Int) by omega]
       exact ih k _ f a (by omega) (Nat.lt_of_le_of_lt (Nat.mod_le _ _) hd) (by omega) (by omega)
   · obtain rfl : u = 0 := by omega
     rw [if_f (by omega)]
     by_cases hal : acc.length < least
     · rw [if_t (by omega)]
       refine cut (by decide) (by omega) fun a ha => ?_
       rw [show (0 / 10 : Nat) = 0 from rfl, wrap_u64_id (by omega) (by omega)]
       exact ih 0 0 f a (by omega) (by decide) (by omega) (by omega)
     · rw [if_f (by omega)]
       exact .mk (by show acc.length ≤ 100; omega)
 exact loop 24 20 u N [] (by simp) hu (by omega) (by simp)
theorem text_tot (k n : Int) {s : List UInt8} (hs : s.length ≤ 2000) : Sm Any (r2_Text N k n s) := by
 have hex16 : ∀ j : Fin 256, (decide (0 ≤ (IntKind.wrap .u8 ((IntKind.wrap .u8 (Int.tdiv (j.val : Int) 16)) + 1)) ∧ (IntKind.wrap .u8 ((IntKind.wrap .u8 (Int.tdiv (j.val : Int) 16)) + 1)) ≤ ((16 : Nat) : Int)) && decide (0 ≤ (IntKind.wrap .u8 (Int.tdiv (j.val : Int) 16)) ∧ (IntKind.wrap .u8 (Int.tdiv (j.val : Int) 16)) ≤ (((Int.toNat (IntKind.wrap .u8 ((IntKind.wrap .u8 (Int.tdiv (j.val : Int) 16)) + 1))) : Nat) : Int))) = true ∧
  (decide (0 ≤ (IntKind.wrap .u8 ((Int.tmod (j.val : Int) 16) + 1)) ∧ (IntKind.wrap .u8 ((Int.tmod (j.val : Int) 16) + 1)) ≤ ((16 : Nat) : Int)) && decide (0 ≤ (Int.tmod (j.val : Int) 16) ∧ (Int.tmod (j.val : Int) 16) ≤ (((Int.toNat (IntKind.wrap .u8 ((Int.tmod (j.val : Int) 16) + 1))) : Nat) : Int))) = true := by decide +kernel
 have hx : ∀ c : UInt8, _ := fun c => hex16 ⟨c.toNat, c.toNat_lt⟩
 have l2 : ∀ {R : Type} {k0 : List UInt8 → Int → Int → List UInt8 → Option R}, (∀ a b c d, a.length ≤ 100000 → Sm Any (k0 a b c d)) → ∀ (m i fuel : Nat) (acc : List UInt8), i + m = s.length → m < fuel → acc.length ≤ 32 * i → Sm Any (r2_Text_l2 N R k0 fuel acc (i : Int) k n s) := by
  intro R k0 h0 m
  induction m with
  | zero =>
   intro i fuel acc h1 h2 h3
   obtain ⟨f, rfl⟩ : ∃ f, fuel = f + 1 := ⟨fuel - 1, by omega⟩
   show Sm Any (r2_Text_l2B N _ _ _ acc (i : Int) k n s)
   unfold r2_Text_l2B
   rw [if_f (by omega)]; exact h0 _ _ _ _ (by omega)
  | succ m ih =>
   intro i fuel acc h1 h2 h3
   obtain ⟨f, rfl⟩ : ∃ f, fuel = f + 1 := ⟨fuel - 1, by omega⟩
   show Sm Any (r2_Text_l2B N _ (r2_Text_l2 N _ _ f) _ acc (i : Int) k n s)
   unfold r2_Text_l2B
   have hi : i < s.length := by omega
   rw [if_t (by omega), nth_lt hi]
   simp only [bind_some']
   have h := hx s[i]
   simp only [Bool.and_eq_true] at h
   obtain ⟨⟨a1, a2⟩, a3, a4⟩ := h
   have ln : ∀ (x y : Nat), (List.drop x (List.take y ([48, 49, 50, 51, 52, 53, 54, 55, 56, 57, 97, 98, 99, 100, 101, 102] : List UInt8))).length ≤ 16 := by intro x y; simp; omega
   rw [cond_t a1, cond_t a2]
   have l1 := ln (Int.toNat (IntKind.wrap .u8 (Int.tdiv (s[i].toNat : Int) 16))) (Int.toNat (IntKind.wrap .u8 ((IntKind.wrap .u8 (Int.tdiv (s[i].toNat : Int) 16)) + 1)))
   have l2 := ln (Int.toNat (Int.tmod (s[i].toNat : Int) 16)) (Int.toNat (IntKind.wrap .u8 ((Int.tmod (s[i].toNat : Int) 16) + 1)))
   refine sm_r (by omega) ?_
   rw [cond_t a3, cond_t a4]
   refine sm_r (by simp only [List.length_append]; omega) ?_
   rw [wr1 (by omega)]
   exact ih (i + 1) f _ (by omega) (by omega) (by simp only [List.length_append]; omega)
 have l3 : ∀ {R : Type} {k0 : List UInt8 → Int → Int → List UInt8 → Option R}, (∀ a b c d, a.length ≤ 100000 → Sm Any (k0 a b c d)) → ∀ (m i fuel : Nat) (acc : List UInt8), i + m = s.length → m < fuel → acc.length ≤ 2 * i → Sm Any (r2_Text_l3 N R k0 fuel acc (i : Int) k n s) := by
  intro R k0 h0 m
  induction m with
  | zero =>
   intro i fuel acc h1 h2 h3
   obtain ⟨f, rfl⟩ : ∃ f, fuel = f + 1 := ⟨fuel - 1, by omega⟩
   show Sm Any (r2_Text_l3B N _ _ _ acc (i : Int) k n s)
   unfold r2_Text_l3B
   rw [if_f (by omega)]; exact h0 _ _ _ _ (by omega)
  | succ m ih =>
   intro i fuel acc h1 h2 h3
   obtain ⟨f, rfl⟩ : ∃ f, fuel = f + 1 := ⟨fuel - 1, by omega⟩
   show Sm Any (r2_Text_l3B N _ (r2_Text_l3 N _ _ f) _ acc (i : Int) k n s)
   unfold r2_Text_l3B
   rw [wr1 (by omega)]
   refine sm_t (by omega) (sm_t (by omega) (sm_t (by omega) (sm_r (by simp; omega) (sm_nth (by omega) fun c => .bif (sm_r (by simp; omega) ?_) ?_))))
   · exact ih (i + 1) f _ (by omega) (by omega) (by simp; omega)
   · exact ih (i + 1) f _ (by omega) (by omega) (by simp; omega)
 have size : Sm (fun v => 0 ≤ v.1 ∧ v.1 < 18446744073709551616 ∧ v.2.1.length ≤ 1) (r2_size N n) := by
  unfold r2_size r2_size_cps
  refine .bif (.mk ?_) (.mk ?_)
  · dsimp only; rw [wrap_u64]; exact ⟨by omega, by omega, by simp⟩
  · dsimp only; rw [wrap_u64]; exact ⟨by omega, by omega, by simp⟩
 unfold r2_Text r2_Text_cps
 refine sm_bind (right_tot k n s) fun _ _ => sm_bind size fun v hv => .bif (.mk trivial) (.bif (.mk trivial) ?_)
 obtain ⟨u, w, x⟩ := v
 obtain ⟨h0, h1, h2⟩ := hv
 dsimp only at h0 h1 h2
 obtain ⟨u, rfl⟩ : ∃ m : Nat, u = (m : Int) := ⟨u.toNat, by omega⟩
 have j1 : Sm Any (r2_Text_j1 N (List UInt8 × Unit) (fun v9 v10 v11 v12 => some (v9, ())) k n s) := by
  unfold r2_Text_j1
  exact .bif (l2 (fun a b c d h => sm_r (by simp; omega) (sm_r (by simp; omega) (.mk trivial))) s.length 0 N [] (by omega) (by omega) (by simp)) (l3 (fun a b c d h => sm_r (by simp; omega) (sm_r (by simp; omega) (.mk trivial))) s.length 0 N [] (by omega) (by omega) (by simp))
 have j0 : ∀ b, Sm Any (r2_Text_j0 N (List UInt8 × Unit) (fun v6 v7 v8 => r2_Text_j1 N _ (fun v9 v10 v11 v12 => some (v9, ())) v6 v7 v8) (fun v13 v14 v15 v16 => some (v13, ())) (u : Int) w b k n s) := by
  intro b
  unfold r2_Text_j0
  refine .bif (.mk trivial) (.bif (.mk trivial) (.bif (sm_bind (digits_tot hN (u := u) (least := 1) (by omega) (by decide)) fun a ha => sm_r (by omega) (.mk trivial)) (.bif ?_ j1)))
  rw [show Int.tdiv (u : Int) 10000 = ((u / 10000 : Nat) : Int) from by rw [Int.tdiv_eq_ediv_of_nonneg (by omega)]; omega, wrap_u64_id (by omega) (by omega), show Int.tmod (u : Int) 10000 = ((u % 10000 : Nat) : Int) from by rw [Int.tmod_eq_emod_of_nonneg (by omega)]; omega]
  exact sm_bind (digits_tot hN (u := u / 10000) (least := 1) (by omega) (by decide)) fun a ha => sm_r (by omega) (sm_r (by simp; omega) (sm_bind (digits_tot hN (u := u % 10000) (least := 4) (by omega) (by decide)) fun b hb => sm_r (by simp; omega) (.mk trivial)))
 exact .bif (j0 _) (j0 _)
theorem read_tot (s : List UInt8) : ∃ a b c d, r2_Read N s = some (a, (b, (c, (d, ())))) := by
 have key : Sm Any (r2_Read N s) := by
  unfold r2_Read r2_Read_cps
  by_cases h : s.length ≤ 403
  · rw [if_f (by omega)]
    exact sm_bind (guess_tot hN (by omega)) fun v hv => sm_bind (right_tot _ _ _) fun _ _ => .bif (.mk trivial) (sm_bind (text_tot hN _ _ hv) fun _ _ => .bif (.mk trivial) (.mk trivial))
  · rw [if_t (by omega)]; exact .mk trivial
 obtain ⟨⟨a, b, c, d, _⟩, h, _⟩ := key
 exact ⟨a, b, c, d, h⟩
end
end Go.Proofs.YtbikfekdakigiaaGreatDoor.E.L
