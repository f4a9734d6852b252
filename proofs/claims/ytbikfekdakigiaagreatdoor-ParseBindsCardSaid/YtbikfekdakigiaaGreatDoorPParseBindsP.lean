/-
  Plain laws of the pure functions.
  Conditions: those that each statement prints, and no other.
-/
import Derived.Test.YtbikfekdakigiaaGreatDoorGPBF
import Derived.Test.YtbikfekdakigiaaGreatDoorEvA
import Derived.KernelRfl
set_option linter.unusedVariables false
set_option linter.unusedSimpArgs false
/-! What binds more: three operators, each of six: all cases. -/
namespace Go.Proofs.YtbikfekdakigiaaGreatDoor.E
open Go.Ev
set_option maxRecDepth 100000

theorem six {a : Int} (h : InR .i64 a) : ∃ n : Int, (a < 0 → IntKind.wrap .i64 (0 - IntKind.wrap .i64 (a + 1)) = n) ∧ (¬ a < 0 → a = n) ∧ (n.tmod 6 = 0 ∨ n.tmod 6 = 1 ∨ n.tmod 6 = 2 ∨ n.tmod 6 = 3 ∨ n.tmod 6 = 4 ∨ n.tmod 6 = 5) := by
  obtain ⟨h1, h2⟩ := h
  simp only [lo, hi] at h1 h2
  have key : ∀ n : Int, 0 ≤ n → (n.tmod 6 = 0 ∨ n.tmod 6 = 1 ∨ n.tmod 6 = 2 ∨ n.tmod 6 = 3 ∨ n.tmod 6 = 4 ∨ n.tmod 6 = 5) := fun n hn => by
    rw [Int.tmod_eq_emod_of_nonneg hn]; omega
  by_cases ha : a < 0
  · refine ⟨0 - (a + 1), fun _ => ?_, fun h => absurd ha h, key _ (by omega)⟩
    rw [wrap_i64_id (x := a + 1) (by omega) (by omega), wrap_i64_id (by omega) (by omega)]
  · exact ⟨a, fun h => absurd h ha, fun _ => rfl, key _ (by omega)⟩

def sg : List (List UInt8) := [[111, 114], [97, 110, 100], [43], [45], [42], [47]]
def nm : List (List UInt8) := [[97], [98], [99], [100]]

theorem sg_at {k : Int} (h : k = 0 ∨ k = 1 ∨ k = 2 ∨ k = 3 ∨ k = 4 ∨ k = 5) : ∃ s, nth sg k = some s ∧ s.length ≤ 3 := by
  rcases h with rfl | rfl | rfl | rfl | rfl | rfl <;> exact ⟨_, rfl, by decide⟩

def tx (t : List UInt8) (k : Int) (x : UInt8) : List UInt8 := (((t ++ [32]) ++ (nth sg k).getD []) ++ [32]) ++ [x]

theorem tx_len {t : List UInt8} {k : Int} {x : UInt8} (h : k = 0 ∨ k = 1 ∨ k = 2 ∨ k = 3 ∨ k = 4 ∨ k = 5) : (tx t k x).length ≤ t.length + 6 := by
  obtain ⟨s, h1, h2⟩ := sg_at h
  simp [tx, h1]; omega

theorem j1_zero (N : Nat) {R : Type} {k0 : List (List UInt8) → List Int → List Int → List (List UInt8) → List UInt8 → Int → Int → Int → Int → Int → Int → Int → Option R} {A B : List Int} {t : List UInt8} {n k a b c x y z : Int}
    (h : n.tmod 6 = k) (hk : k = 0 ∨ k = 1 ∨ k = 2 ∨ k = 3 ∨ k = 4 ∨ k = 5) (ht : t.length ≤ 100) :
    law17_ParseBinds_j1 N R k0 sg A B nm t 0 n a b c x y z = k0 sg A B nm (tx t k 98) 0 a b c k y z := by
  obtain ⟨s, h1, h2⟩ := sg_at hk
  unfold law17_ParseBinds_j1
  rw [if_t rfl, cond_t (room_one (by simp; omega)), if_t rfl, h, h1, bind_some', cond_t (room_one (by simp; omega)), cond_t (room_one (by simp; omega)), show nth nm (IntKind.wrap .i64 (0 + 1)) = some [98] from rfl, bind_some', cond_t (room_one (by simp; omega)), tx, h1]
  rfl

theorem j1_one (N : Nat) {R : Type} {k0 : List (List UInt8) → List Int → List Int → List (List UInt8) → List UInt8 → Int → Int → Int → Int → Int → Int → Int → Option R} {A B : List Int} {t : List UInt8} {n k a b c x y z : Int}
    (h : n.tmod 6 = k) (hk : k = 0 ∨ k = 1 ∨ k = 2 ∨ k = 3 ∨ k = 4 ∨ k = 5) (ht : t.length ≤ 100) :
    law17_ParseBinds_j1 N R k0 sg A B nm t 1 n a b c x y z = k0 sg A B nm (tx t k 99) 1 a b c x k z := by
  obtain ⟨s, h1, h2⟩ := sg_at hk
  unfold law17_ParseBinds_j1
  rw [if_f (by decide), if_t rfl, cond_t (room_one (by simp; omega)), if_f (by decide), if_t rfl, h, h1, bind_some', cond_t (room_one (by simp; omega)), cond_t (room_one (by simp; omega)), show nth nm (IntKind.wrap .i64 (1 + 1)) = some [99] from rfl, bind_some', cond_t (room_one (by simp; omega)), tx, h1]
  rfl

theorem j1_two (N : Nat) {R : Type} {k0 : List (List UInt8) → List Int → List Int → List (List UInt8) → List UInt8 → Int → Int → Int → Int → Int → Int → Int → Option R} {A B : List Int} {t : List UInt8} {n k a b c x y z : Int}
    (h : n.tmod 6 = k) (hk : k = 0 ∨ k = 1 ∨ k = 2 ∨ k = 3 ∨ k = 4 ∨ k = 5) (ht : t.length ≤ 100) :
    law17_ParseBinds_j1 N R k0 sg A B nm t 2 n a b c x y z = k0 sg A B nm (tx t k 100) 2 a b c x y k := by
  obtain ⟨s, h1, h2⟩ := sg_at hk
  unfold law17_ParseBinds_j1
  rw [if_f (by decide), if_f (by decide), if_t rfl, cond_t (room_one (by simp; omega)), if_f (by decide), if_f (by decide), if_t rfl, h, h1, bind_some', cond_t (room_one (by simp; omega)), cond_t (room_one (by simp; omega)), show nth nm (IntKind.wrap .i64 (2 + 1)) = some [100] from rfl, bind_some', cond_t (room_one (by simp; omega)), tx, h1]
  rfl

theorem ParseBinds_one (N : Nat) {R : Type} {k0 : List Int → List Int → List UInt8 → Int → Int → Int → Int → Int → Int → Option R} {A B : List Int} {S T : List (List UInt8)} {t : List UInt8} {a b c x y z n : Int} (m : Nat)
    (h1 : a < 0 → IntKind.wrap .i64 (0 - IntKind.wrap .i64 (a + 1)) = n) (h2 : ¬ a < 0 → a = n) :
    law17_ParseBinds_l0 N R k0 (m + 1) S A B T t 0 a b c x y z = law17_ParseBinds_j1 N R (fun v89 v90 v91 v92 v93 v94 v95 v96 v97 v98 v99 v100 => law17_ParseBinds_l0 N R k0 m v89 v90 v91 v92 v93 (IntKind.wrap .i64 (v94 + 1)) v95 v96 v97 v98 v99 v100) S A B T t 0 n a b c x y z := by
  show law17_ParseBinds_l0B N R (law17_ParseBinds_l0 N R k0 m) k0 S A B T t 0 a b c x y z = _
  unfold law17_ParseBinds_l0B
  rw [if_t (by decide), if_t rfl]
  by_cases ha : a < 0
  · rw [if_t ha, h1 ha]
  · rw [if_f ha, ← h2 ha]

theorem ParseBinds_two (N : Nat) {R : Type} {k0 : List Int → List Int → List UInt8 → Int → Int → Int → Int → Int → Int → Option R} {A B : List Int} {S T : List (List UInt8)} {t : List UInt8} {a b c x y z n : Int} (m : Nat)
    (h1 : b < 0 → IntKind.wrap .i64 (0 - IntKind.wrap .i64 (b + 1)) = n) (h2 : ¬ b < 0 → b = n) :
    law17_ParseBinds_l0 N R k0 (m + 1) S A B T t 1 a b c x y z = law17_ParseBinds_j1 N R (fun v89 v90 v91 v92 v93 v94 v95 v96 v97 v98 v99 v100 => law17_ParseBinds_l0 N R k0 m v89 v90 v91 v92 v93 (IntKind.wrap .i64 (v94 + 1)) v95 v96 v97 v98 v99 v100) S A B T t 1 n a b c x y z := by
  show law17_ParseBinds_l0B N R (law17_ParseBinds_l0 N R k0 m) k0 S A B T t 1 a b c x y z = _
  unfold law17_ParseBinds_l0B
  rw [if_t (by decide), if_f (by decide), if_t rfl]
  by_cases ha : b < 0
  · rw [if_t ha, h1 ha]
  · rw [if_f ha, ← h2 ha]

theorem ParseBinds_three (N : Nat) {R : Type} {k0 : List Int → List Int → List UInt8 → Int → Int → Int → Int → Int → Int → Option R} {A B : List Int} {S T : List (List UInt8)} {t : List UInt8} {a b c x y z n : Int} (m : Nat)
    (h1 : c < 0 → IntKind.wrap .i64 (0 - IntKind.wrap .i64 (c + 1)) = n) (h2 : ¬ c < 0 → c = n) :
    law17_ParseBinds_l0 N R k0 (m + 1) S A B T t 2 a b c x y z = law17_ParseBinds_j1 N R (fun v89 v90 v91 v92 v93 v94 v95 v96 v97 v98 v99 v100 => law17_ParseBinds_l0 N R k0 m v89 v90 v91 v92 v93 (IntKind.wrap .i64 (v94 + 1)) v95 v96 v97 v98 v99 v100) S A B T t 2 n a b c x y z := by
  show law17_ParseBinds_l0B N R (law17_ParseBinds_l0 N R k0 m) k0 S A B T t 2 a b c x y z = _
  unfold law17_ParseBinds_l0B
  rw [if_t (by decide), if_f (by decide), if_f (by decide), if_t rfl]
  by_cases ha : c < 0
  · rw [if_t ha, h1 ha]
  · rw [if_f ha, ← h2 ha]

theorem ParseBinds_l0 (N : Nat) {R : Type} {k0 : List Int → List Int → List UInt8 → Int → Int → Int → Int → Int → Int → Option R} {A B : List Int} {a b c : Int} {m f : Nat} (hm : m = f + 4) (ha : InR .i64 a) (hb : InR .i64 b) (hc : InR .i64 c) :
    ∃ k1 k2 k3 : Int, (k1 = 0 ∨ k1 = 1 ∨ k1 = 2 ∨ k1 = 3 ∨ k1 = 4 ∨ k1 = 5) ∧ (k2 = 0 ∨ k2 = 1 ∨ k2 = 2 ∨ k2 = 3 ∨ k2 = 4 ∨ k2 = 5) ∧ (k3 = 0 ∨ k3 = 1 ∨ k3 = 2 ∨ k3 = 3 ∨ k3 = 4 ∨ k3 = 5) ∧
      law17_ParseBinds_l0 N R k0 m sg A B nm [97] 0 a b c 0 0 0 = k0 A B (tx (tx (tx [97] k1 98) k2 99) k3 100) a b c k1 k2 k3 := by
  subst hm
  obtain ⟨n1, p1, q1, r1⟩ := six ha
  obtain ⟨n2, p2, q2, r2⟩ := six hb
  obtain ⟨n3, p3, q3, r3⟩ := six hc
  have l1 : (tx [97] (n1.tmod 6) 98).length ≤ 7 := Nat.le_trans (tx_len r1) (by decide)
  have l2 : (tx (tx [97] (n1.tmod 6) 98) (n2.tmod 6) 99).length ≤ 13 := Nat.le_trans (tx_len r2) (by omega)
  refine ⟨n1.tmod 6, n2.tmod 6, n3.tmod 6, r1, r2, r3, ?_⟩
  rw [ParseBinds_one N (f + 3) p1 q1, j1_zero N rfl r1 (by simp), show IntKind.wrap .i64 (0 + 1) = 1 from rfl, ParseBinds_two N (f + 2) p2 q2, j1_one N rfl r2 (by omega), show IntKind.wrap .i64 (1 + 1) = 2 from rfl,
    ParseBinds_three N (f + 1) p3 q3, j1_two N rfl r3 (by omega)]
  show law17_ParseBinds_l0B N R (law17_ParseBinds_l0 N R k0 f) k0 _ A B _ _ (IntKind.wrap .i64 (2 + 1)) a b c _ _ _ = _
  unfold law17_ParseBinds_l0B
  rw [if_f (by decide)]

theorem ParseBinds_to (N : Nat) {R : Type} {k0 : List Int → List Int → List UInt8 → Int → Int → Int → Int → Int → Int → Option R} {A B : List Int} {a b c : Int} {m f : Nat} {r : Option R} (hm : m = f + 4) (ha : InR .i64 a) (hb : InR .i64 b) (hc : InR .i64 c)
    (H : ∀ k1 k2 k3 : Int, (k1 = 0 ∨ k1 = 1 ∨ k1 = 2 ∨ k1 = 3 ∨ k1 = 4 ∨ k1 = 5) → (k2 = 0 ∨ k2 = 1 ∨ k2 = 2 ∨ k2 = 3 ∨ k2 = 4 ∨ k2 = 5) → (k3 = 0 ∨ k3 = 1 ∨ k3 = 2 ∨ k3 = 3 ∨ k3 = 4 ∨ k3 = 5) →
      k0 A B (tx (tx (tx [97] k1 98) k2 99) k3 100) a b c k1 k2 k3 = r) : law17_ParseBinds_l0 N R k0 m sg A B nm [97] 0 a b c 0 0 0 = r := by
  obtain ⟨k1, k2, k3, r1, r2, r3, e⟩ := ParseBinds_l0 N (k0 := k0) (A := A) (B := B) hm ha hb hc
  rw [e]; exact H k1 k2 k3 r1 r2 r3

theorem ParseBinds_all {a b c : Int} (ha : InR .i64 a) (hb : InR .i64 b) (hc : InR .i64 c) : law17_ParseBinds big a b c = some (true, ()) := by
  unfold law17_ParseBinds law17_ParseBinds_cps
  refine ParseBinds_to big (f := 999999999999999999999999999996) (by rw [big_eq]) ha hb hc ?_
  rw [big_eq]
  intro k1 k2 k3 r1 r2 r3
  rcases r1 with rfl | rfl | rfl | rfl | rfl | rfl <;> rcases r2 with rfl | rfl | rfl | rfl | rfl | rfl <;> rcases r3 with rfl | rfl | rfl | rfl | rfl | rfl <;> kernel_rfl

theorem ParseBinds_pure : ParseBinds_Pure := fun x h => ParseBinds_all h.1.1 h.1.2.1 h.1.2.2.1

end Go.Proofs.YtbikfekdakigiaaGreatDoor.E
