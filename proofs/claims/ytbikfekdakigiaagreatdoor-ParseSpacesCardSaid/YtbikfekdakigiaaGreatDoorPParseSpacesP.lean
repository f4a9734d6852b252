/-
  Plain laws of the pure functions.
  Conditions: those that each statement prints, and no other.
-/
import Derived.Test.YtbikfekdakigiaaGreatDoorPStmEP
import Derived.Test.YtbikfekdakigiaaGreatDoorPRLex2P
import Derived.Test.YtbikfekdakigiaaGreatDoorPGreatP
import Derived.Test.YtbikfekdakigiaaGreatDoorPSameSP
set_option linter.unusedVariables false
set_option linter.unusedSimpArgs false
namespace Go.Proofs.YtbikfekdakigiaaGreatDoor.E
open Go.Ev
set_option maxRecDepth 100000
theorem alive17 : w7_alive big = some (true, ()) := by rw [big_eq]; kernel_rfl
abbrev KA (R : Type) := Int → Bs → Bs → Int → Int → Int → Bs → Bs → Bs → Int → List Ex → Int → Int → Int → Int → Int → Bs → Bs → Bs → Int → List Ex → Int → Int → List Ex → List Ex → List OrdT → Int → List (List Ex) → List SetT → Int → Option R
abbrev KB (R : Type) := Bs → Bs → Int → Bs → Bs → Int → Int → Int → Bs → Bs → Bs → Int → List Ex → Int → Int → Int → Int → Int → Bs → Bs → Bs → Int → List Ex → Int → Int → List Ex → List Ex → List OrdT → Int → List (List Ex) → List SetT → Int → Option R
abbrev KC (R : Type) := Bool → Int → Bs → Bs → Int → Int → Int → Bs → Bs → Bs → Int → List Ex → Int → Int → Int → Int → Int → Bs → Bs → Bs → Int → List Ex → Int → Int → List Ex → List Ex → List OrdT → Int → List (List Ex) → List SetT → Int → Option R
def blk (l : Bs) (k : Nat) : UInt8 := match l[k]? with
 | some b => (([32, 9, 10, 13] : Bs)[b.toNat % 4]?).getD 32
 | none => 32
theorem blk_ok (l : Bs) (k : Nat) : L.ofB (blk l k) = 1 ∧ L.Sep (blk l k) := by
 have key : ∀ m : Fin 4, L.ofB ((([32, 9, 10, 13] : Bs)[m.val]?).getD 32) = 1 ∧ L.Sep ((([32, 9, 10, 13] : Bs)[m.val]?).getD 32) := by decide
 unfold blk
 split
 · rename_i b _
   exact key ⟨b.toNat % 4, Nat.mod_lt _ (by decide)⟩
 · decide
theorem lx_at {i : Nat} {u : Bs} {l : List L.TT} (h : L.Lx i u l) : ∀ (j : Nat) (hj : j < l.length), ∃ p : Nat, l[j].2.2.2.1 = (p : Int) ∧ p + l[j].2.1.length ≤ i + u.length := by
 induction h with
 | nil => exact fun j hj => absurd hj (Nat.not_lt_zero _)
 | blank _ _ ih =>
  intro j hj
  obtain ⟨p, h1, h2⟩ := ih j hj
  exact ⟨p, h1, by simp only [List.length_cons]; omega⟩
 | @tok i c r z l _ hn _ ih =>
  have hl := L.next_len hn
  intro j hj
  cases j with
  | zero => exact ⟨i, rfl, by show i + z.2.1.length ≤ _; omega⟩
  | succ j =>
   obtain ⟨p, h1, h2⟩ := ih j (by simpa using hj)
   refine ⟨p, h1, ?_⟩
   simp only [List.getElem_cons_succ]
   simp only [List.length_drop] at h2
   omega
theorem sg_at {lr l : List L.TT} (h : L.Sg lr l) {s : Bs} (hx : L.Lx 0 s l) : ∀ (j : Nat) (hj : j < lr.length), ∃ p : Nat, lr[j].2.2.2.1 = (p : Int) ∧ p + lr[j].2.1.length ≤ s.length := by
 have h2 := lx_at hx
 rw [Nat.zero_add] at h2
 generalize s.length = n at h2
 clear hx
 induction h with
 | nil => exact fun j hj => absurd hj (Nat.not_lt_zero _)
 | cons e1 e2 _ ih =>
  intro j hj
  cases j with
  | zero =>
   obtain ⟨p, h3, h4⟩ := h2 0 (by simp)
   exact ⟨p, e1.trans h3, by simp only [List.getElem_cons_zero] at h4 ⊢; omega⟩
  | succ j =>
   refine ih (fun k hk => ?_) j (by simpa using hj)
   obtain ⟨p, h3, h4⟩ := h2 (k + 1) (by simpa using hk)
   exact ⟨p, h3, h4⟩
theorem sg_agn {lr l : List L.TT} (h : L.Sg lr l) (s : Bs) (b : Nat → UInt8) : ∀ k, L.agn s b k lr = L.agn s b k l := by
 induction h with
 | nil => exact fun _ => rfl
 | cons e1 e2 _ ih =>
  intro k
  unfold L.agn
  rw [e1, e2, ih]
section
variable {N : Nat} (hN : 1000000 < N)
include hN
omit hN in
theorem spaces_l1 {R : Type} {k0 : KB R} {s bl : Bs} (hs : s.length ≤ 300) {lr : List L.TT} {n : Nat} (hlr : lr.length ≤ 300) (hat : ∀ (j : Nat) (h : j < lr.length), ∃ p : Nat, lr[j].2.2.2.1 = (p : Int) ∧ p + lr[j].2.1.length ≤ s.length) {a1 : Int} {a2 : Bs} {a3 : Bs} {a4 : Int} {a5 : Int} {a6 : Int} {a7 : Bs} {a8 : Bs} {a9 : Bs} {a10 : Int} {a11 : List Ex} {a12 : Int} {a13 : Int} {a14 : Int} {a15 : Int} {a16 : Int} {a17 : Bs} {a18 : Bs} {a19 : Bs} {a20 : Int} {a21 : List Ex} {a22 : Int} {a23 : Int} {a24 : List Ex} {a25 : List Ex} {a26 : List OrdT} {a27 : Int} {a28 : List (List Ex)} {a29 : List SetT} {a30 : Int} :
 ∀ (m i fuel : Nat) (acc : Bs), i + m = lr.length → m < fuel → acc.length ≤ i * 301 → w7_ParseSpaces_l1 N R k0 fuel s bl (lr ++ [L.endT n]) acc (i : Int) a1 a2 a3 a4 a5 a6 a7 a8 a9 a10 a11 a12 a13 a14 a15 a16 a17 a18 a19 a20 a21 a22 a23 a24 a25 a26 a27 a28 a29 a30 = k0 s (acc ++ L.agn s (blk bl) i (lr.drop i)) a1 a2 a3 a4 a5 a6 a7 a8 a9 a10 a11 a12 a13 a14 a15 a16 a17 a18 a19 a20 a21 a22 a23 a24 a25 a26 a27 a28 a29 a30 := by
 intro m
 induction m with
 | zero =>
  intro i fuel acc h1 h2 h3
  obtain ⟨f, rfl⟩ : ∃ f, fuel = f + 1 := ⟨fuel - 1, by omega⟩
  show w7_ParseSpaces_l1B N R _ k0 s bl (lr ++ [L.endT n]) acc (i : Int) a1 a2 a3 a4 a5 a6 a7 a8 a9 a10 a11 a12 a13 a14 a15 a16 a17 a18 a19 a20 a21 a22 a23 a24 a25 a26 a27 a28 a29 a30 = _
  unfold w7_ParseSpaces_l1B
  rw [L.wr1 (by omega), if_f (by simp; omega), List.drop_eq_nil_of_le (by omega)]
  unfold L.agn
  rw [List.append_nil]
 | succ m ih =>
  intro i fuel acc h1 h2 h3
  obtain ⟨f, rfl⟩ : ∃ f, fuel = f + 1 := ⟨fuel - 1, by omega⟩
  show w7_ParseSpaces_l1B N R (w7_ParseSpaces_l1 N R k0 f) k0 s bl (lr ++ [L.endT n]) acc (i : Int) a1 a2 a3 a4 a5 a6 a7 a8 a9 a10 a11 a12 a13 a14 a15 a16 a17 a18 a19 a20 a21 a22 a23 a24 a25 a26 a27 a28 a29 a30 = _
  unfold w7_ParseSpaces_l1B
  have hi : i < lr.length := by omega
  obtain ⟨p, hp, hpl⟩ := hat i hi
  have hi' : i < (lr ++ [L.endT n]).length := by simp; omega
  have hget : (lr ++ [L.endT n])[i] = lr[i] := List.getElem_append_left hi
  rw [L.wr1 (by omega), if_t (by simp; omega)]
  have step : ∀ b : UInt8, b = blk bl i →
   (bif (decide (0 ≤ (IntKind.wrap .i64 (lr[i].2.2.2.1 + (lr[i].2.1.length : Int))) ∧ (IntKind.wrap .i64 (lr[i].2.2.2.1 + (lr[i].2.1.length : Int))) ≤ ((s.length : Nat) : Int))) then
   (bif (decide (0 ≤ lr[i].2.2.2.1 ∧ lr[i].2.2.2.1 ≤ (((Int.toNat (IntKind.wrap .i64 (lr[i].2.2.2.1 + (lr[i].2.1.length : Int)))) : Nat) : Int))) then
   (bif (room 1 (acc.length + (List.drop (Int.toNat lr[i].2.2.2.1) (List.take (Int.toNat (IntKind.wrap .i64 (lr[i].2.2.2.1 + (lr[i].2.1.length : Int)))) s)).length)) then
   (bif (room 1 ((acc ++ (List.drop (Int.toNat lr[i].2.2.2.1) (List.take (Int.toNat (IntKind.wrap .i64 (lr[i].2.2.2.1 + (lr[i].2.1.length : Int)))) s))).length + ([b] : Bs).length)) then
   (w7_ParseSpaces_l1 N R k0 f s bl (lr ++ [L.endT n]) ((acc ++ (List.drop (Int.toNat lr[i].2.2.2.1) (List.take (Int.toNat (IntKind.wrap .i64 (lr[i].2.2.2.1 + (lr[i].2.1.length : Int)))) s))) ++ ([b] : Bs)) ((i + 1 : Nat) : Int) a1 a2 a3 a4 a5 a6 a7 a8 a9 a10 a11 a12 a13 a14 a15 a16 a17 a18 a19 a20 a21 a22 a23 a24 a25 a26 a27 a28 a29 a30) else none) else none) else none) else none) =
   k0 s (acc ++ L.agn s (blk bl) i (lr.drop i)) a1 a2 a3 a4 a5 a6 a7 a8 a9 a10 a11 a12 a13 a14 a15 a16 a17 a18 a19 a20 a21 a22 a23 a24 a25 a26 a27 a28 a29 a30 := by
   intro b hb
   rw [hp, show IntKind.wrap .i64 ((p : Int) + (lr[i].2.1.length : Int)) = ((p + lr[i].2.1.length : Nat) : Int) by rw [wrap_i64_id (by omega) (by omega)]; omega, Int.toNat_natCast, Int.toNat_natCast]
   have hd : (List.drop p (List.take (p + lr[i].2.1.length) s)) = (s.drop p).take lr[i].2.1.length := by rw [List.drop_take]; congr 1; omega
   have hl : ((s.drop p).take lr[i].2.1.length).length ≤ 300 := by rw [List.length_take, List.length_drop]; omega
   rw [if_t (by omega), if_t (by omega), hd, cond_t (L.rm1 (by omega)), cond_t (L.rm1 (by simp only [List.length_append, List.length_cons, List.length_nil]; omega)),
    ih (i + 1) f _ (by omega) (by omega) (by simp only [List.length_append, List.length_cons, List.length_nil]; omega)]
   have e : L.agn s (blk bl) i (lr.drop i) = (s.drop p).take lr[i].2.1.length ++ blk bl i :: L.agn s (blk bl) (i + 1) (lr.drop (i + 1)) := by
    rw [List.drop_eq_getElem_cons hi]
    show (s.drop (Int.toNat lr[i].2.2.2.1)).take _ ++ _ = _
    rw [hp, Int.toNat_natCast]
   rw [e, hb]
   simp
  rw [nth_lt hi', hget]
  simp only [bind_some']
  by_cases hb : i < bl.length
  · have e4 : Int.tmod (bl[i].toNat : Int) 4 = ((bl[i].toNat % 4 : Nat) : Int) := by rw [Int.tmod_eq_emod_of_nonneg (by omega)]; omega
    have h4 : bl[i].toNat % 4 < ([32, 9, 10, 13] : Bs).length := Nat.mod_lt _ (by decide)
    rw [if_t (by omega), nth_lt hb, bind_some', e4, nth_lt h4, bind_some', L.ofTo]
    exact step _ (by unfold blk; rw [List.getElem?_eq_getElem hb]; dsimp only; rw [List.getElem?_eq_getElem h4]; rfl)
  · rw [if_f (by omega)]
    exact step 32 (by unfold blk; rw [List.getElem?_eq_none (by omega)])
omit hN in
theorem spaces_l3 {R : Type} {k0 : Int → Bs → Bs → Int → Int → Int → Bs → Bs → Bs → Int → List Ex → Int → Int → Int → Int → Int → Bs → Bs → Bs → Int → List Ex → Int → Int → List Ex → List Ex → List OrdT → Int → List (List Ex) → List SetT → Int → Int → Bs → Bs → Int → Int → Int → Bs → Bs → Bs → Int → List Ex → Int → Int → Int → Int → Int → Bs → Bs → Bs → Int → List Ex → Int → Int → List Ex → List Ex → List OrdT → Int → List (List Ex) → List SetT → Int → Int → Bs → Bs → Int → Int → Int → Bs → Bs → Bs → Int → List Ex → Int → Int → Int → Int → Int → Bs → Bs → Bs → Int → List Ex → Int → Int → List Ex → List Ex → List OrdT → Int → List (List Ex) → List SetT → Int → Option R} {k1 : Bool → Int → Bs → Bs → Int → Int → Int → Bs → Bs → Bs → Int → List Ex → Int → Int → Int → Int → Int → Bs → Bs → Bs → Int → List Ex → Int → Int → List Ex → List Ex → List OrdT → Int → List (List Ex) → List SetT → Int → Int → Bs → Bs → Int → Int → Int → Bs → Bs → Bs → Int → List Ex → Int → Int → Int → Int → Int → Bs → Bs → Bs → Int → List Ex → Int → Int → List Ex → List Ex → List OrdT → Int → List (List Ex) → List SetT → Int → Int → Bs → Bs → Int → Int → Int → Bs → Bs → Bs → Int → List Ex → Int → Int → Int → Int → Int → Bs → Bs → Bs → Int → List Ex → Int → Int → List Ex → List Ex → List OrdT → Int → List (List Ex) → List SetT → Int → Option R} {a1 : Int} {a2 : Bs} {a3 : Bs} {a4 : Int} {a5 : Int} {a6 : Int} {a7 : Bs} {a8 : Bs} {a9 : Bs} {a10 : Int} {a11 : List Ex} {a12 : Int} {a13 : Int} {a14 : Int} {a15 : Int} {a16 : Int} {a17 : Bs} {a18 : Bs} {a19 : Bs} {a20 : Int} {a21 : List Ex} {a22 : Int} {a23 : Int} {a24 : List Ex} {a25 : List Ex} {a26 : List OrdT} {a27 : Int} {a28 : List (List Ex)} {a29 : List SetT} {a30 : Int} {b1 : Int} {b2 : Bs} {b3 : Bs} {b4 : Int} {b5 : Int} {b6 : Int} {b7 : Bs} {b8 : Bs} {b9 : Bs} {b10 : Int} {b11 : List Ex} {b12 : Int} {b13 : Int} {b14 : Int} {b15 : Int} {b16 : Int} {b17 : Bs} {b18 : Bs} {b19 : Bs} {b20 : Int} {b21 : List Ex} {b22 : Int} {b23 : Int} {b24 : List Ex} {b25 : List Ex} {b26 : List OrdT} {b27 : Int} {b28 : List (List Ex)} {b29 : List SetT} {b30 : Int} {c1 : Int} {c2 : Bs} {c3 : Bs} {c4 : Int} {c5 : Int} {c6 : Int} {c7 : Bs} {c8 : Bs} {c9 : Bs} {c10 : Int} {c11 : List Ex} {c12 : Int} {c13 : Int} {c14 : Int} {c15 : Int} {c16 : Int} {c17 : Bs} {c18 : Bs} {c19 : Bs} {c20 : Int} {c21 : List Ex} {c22 : Int} {c23 : Int} {c24 : List Ex} {c25 : List Ex} {c26 : List OrdT} {c27 : Int} {c28 : List (List Ex)} {c29 : List SetT} {c30 : Int} (hb : b24.length = a24.length) (hc : c24.length = a24.length) (hl : a24.length ≤ 10000)
 (hB : ∀ (j : Nat) (h : j < a24.length) (h' : j < b24.length), onS (r7_Same N) b24[j] a24[j] = some (true, ())) (hC : ∀ (j : Nat) (h : j < a24.length) (h' : j < c24.length), onS (r7_Same N) c24[j] a24[j] = some (true, ())) :
 ∀ (m i fuel : Nat), i + m = a24.length → m < fuel → w7_ParseSpaces_l3 N R k0 k1 fuel (i : Int) a1 a2 a3 a4 a5 a6 a7 a8 a9 a10 a11 a12 a13 a14 a15 a16 a17 a18 a19 a20 a21 a22 a23 a24 a25 a26 a27 a28 a29 a30 b1 b2 b3 b4 b5 b6 b7 b8 b9 b10 b11 b12 b13 b14 b15 b16 b17 b18 b19 b20 b21 b22 b23 b24 b25 b26 b27 b28 b29 b30 c1 c2 c3 c4 c5 c6 c7 c8 c9 c10 c11 c12 c13 c14 c15 c16 c17 c18 c19 c20 c21 c22 c23 c24 c25 c26 c27 c28 c29 c30 = k0 a1 a2 a3 a4 a5 a6 a7 a8 a9 a10 a11 a12 a13 a14 a15 a16 a17 a18 a19 a20 a21 a22 a23 a24 a25 a26 a27 a28 a29 a30 b1 b2 b3 b4 b5 b6 b7 b8 b9 b10 b11 b12 b13 b14 b15 b16 b17 b18 b19 b20 b21 b22 b23 b24 b25 b26 b27 b28 b29 b30 c1 c2 c3 c4 c5 c6 c7 c8 c9 c10 c11 c12 c13 c14 c15 c16 c17 c18 c19 c20 c21 c22 c23 c24 c25 c26 c27 c28 c29 c30 := by
 intro m
 induction m with
 | zero =>
  intro i fuel h1 h2
  obtain ⟨f, rfl⟩ : ∃ f, fuel = f + 1 := ⟨fuel - 1, by omega⟩
  show w7_ParseSpaces_l3B N R _ k0 k1 (i : Int) a1 a2 a3 a4 a5 a6 a7 a8 a9 a10 a11 a12 a13 a14 a15 a16 a17 a18 a19 a20 a21 a22 a23 a24 a25 a26 a27 a28 a29 a30 b1 b2 b3 b4 b5 b6 b7 b8 b9 b10 b11 b12 b13 b14 b15 b16 b17 b18 b19 b20 b21 b22 b23 b24 b25 b26 b27 b28 b29 b30 c1 c2 c3 c4 c5 c6 c7 c8 c9 c10 c11 c12 c13 c14 c15 c16 c17 c18 c19 c20 c21 c22 c23 c24 c25 c26 c27 c28 c29 c30 = _
  unfold w7_ParseSpaces_l3B
  rw [if_f (by omega)]
 | succ m ih =>
  intro i fuel h1 h2
  obtain ⟨f, rfl⟩ : ∃ f, fuel = f + 1 := ⟨fuel - 1, by omega⟩
  show w7_ParseSpaces_l3B N R (w7_ParseSpaces_l3 N R k0 k1 f) k0 k1 (i : Int) a1 a2 a3 a4 a5 a6 a7 a8 a9 a10 a11 a12 a13 a14 a15 a16 a17 a18 a19 a20 a21 a22 a23 a24 a25 a26 a27 a28 a29 a30 b1 b2 b3 b4 b5 b6 b7 b8 b9 b10 b11 b12 b13 b14 b15 b16 b17 b18 b19 b20 b21 b22 b23 b24 b25 b26 b27 b28 b29 b30 c1 c2 c3 c4 c5 c6 c7 c8 c9 c10 c11 c12 c13 c14 c15 c16 c17 c18 c19 c20 c21 c22 c23 c24 c25 c26 c27 c28 c29 c30 = _
  unfold w7_ParseSpaces_l3B
  have hi : i < a24.length := by omega
  have e1 := hB i hi (by omega)
  have e2 := hC i hi (by omega)
  unfold onS at e1 e2
  rw [if_t (by omega), nth_lt (show i < b24.length by omega), bind_some', nth_lt hi, bind_some', e1, bind_some', nth_lt (show i < c24.length by omega), bind_some', bind_some', e2, bind_some', cnt, cnt, L.wr1 (by omega)]
  exact ih (i + 1) f (by omega) (by omega)
theorem great_eq {s : Bs} (hs : s.length ≤ 1000) : w7_great N s = some (L.gr false s, ()) := by
 have loop : ∀ (m i fuel : Nat) (acc : Bs) (q : Bool), i + m = s.length → m < fuel → acc.length ≤ i → w7_great_l0 N (Bs × Unit) (fun v2 => some (v2, ())) fuel s acc q (i : Int) = some (acc ++ L.gr q (s.drop i), ()) := by
  intro m
  induction m with
  | zero =>
   intro i fuel acc q h1 h2 h3
   obtain ⟨f, rfl⟩ : ∃ f, fuel = f + 1 := ⟨fuel - 1, by omega⟩
   show w7_great_l0B N _ _ _ s acc q (i : Int) = _
   unfold w7_great_l0B
   rw [if_f (by omega), List.drop_eq_nil_of_le (by omega)]
   simp [L.gr]
  | succ m ih =>
   intro i fuel acc q h1 h2 h3
   obtain ⟨f, rfl⟩ : ∃ f, fuel = f + 1 := ⟨fuel - 1, by omega⟩
   show w7_great_l0B N _ (w7_great_l0 N _ _ f) _ s acc q (i : Int) = _
   unfold w7_great_l0B
   have hi : i < s.length := by omega
   rw [if_t (by omega), nth_lt hi, bind_some', List.drop_eq_getElem_cons hi]
   have j1 : ∀ (p : Bool), w7_great_j1 N (Bs × Unit) (fun v8 v9 v10 v11 => w7_great_l0 N (Bs × Unit) (fun v2 => some (v2, ())) f v8 v9 v10 (IntKind.wrap .i64 (v11 + 1))) s acc p (i : Int) (s[i].toNat : Int) = some (acc ++ ((if p = true then s[i] else L.upB s[i]) :: L.gr p (s.drop (i + 1))), ()) := by
    intro p
    have go : ∀ x : UInt8, (bif (room 1 (acc.length + ([x] : Bs).length)) then (w7_great_l0 N (Bs × Unit) (fun v2 => some (v2, ())) f s (acc ++ [x]) p (IntKind.wrap .i64 ((i : Int) + 1))) else none) = some (acc ++ (x :: L.gr p (s.drop (i + 1))), ()) := by
     intro x
     rw [cond_t (L.rm1 (by simp; omega)), L.wr1 (by omega), ih (i + 1) f _ p (by omega) (by omega) (by simp; omega)]
     simp
    unfold w7_great_j1
    rw [L.ofTo]
    cases p
    · rw [cnf]
      by_cases h97 : 97 ≤ s[i].toNat
      · rw [if_t (by omega)]
        by_cases h122 : s[i].toNat ≤ 122
        · have e : L.upB s[i] = UInt8.ofNat (Int.toNat (IntKind.wrap .u8 ((s[i].toNat : Int) - 32))) := by unfold L.upB; rw [if_pos ⟨h97, h122⟩]
          rw [if_t (by omega), if_neg (by simp), e]; exact go _
        · have e : L.upB s[i] = s[i] := by unfold L.upB; rw [if_neg (by omega)]
          rw [if_f (by omega), if_neg (by simp), e]; exact go _
      · have e : L.upB s[i] = s[i] := by unfold L.upB; rw [if_neg (by omega)]
        rw [if_f (by omega), if_neg (by simp), e]; exact go _
    · rw [cnt, if_pos rfl]; exact go _
   unfold L.gr
   by_cases hq : s[i] = 39
   · rw [if_t (L.c39.2 hq), if_pos hq]; exact j1 _
   · rw [if_f (fun h => hq (L.c39.1 h)), if_neg hq]; exact j1 _
 exact (loop s.length 0 N [] false (by omega) (by omega) (by simp)).trans (by simp)
theorem parse_alike {s s' : Bs} {l l' : List L.TT} (hl : s.length ≤ 1000) (hl' : s'.length ≤ 1000) (hx : L.Lx 0 s l) (hx' : L.Lx 0 s' l') (he : LkE l l') {Z : Stm × List (Bs × Ex)} (hZ : parseT N (l ++ [L.endT s.length]) = some Z) :
 ∃ Y S a, parse_Parse N s' = some (pt Y S a .nil) ∧ SmS Z.1 Y := by
 have he' : LkE (l ++ [L.endT s.length]) (l' ++ [L.endT s'.length]) := by
  clear hx hx' hZ
  induction he with
  | nil => exact .cons ⟨rfl, fun _ => rfl, rfl⟩ .nil
  | cons h _ ih => exact .cons h ih
 obtain ⟨Y, hY, hs⟩ := parseT_E he' hZ
 rcases parse_ok hN hl' hx' with ⟨Y', S, a, h1, h2, _⟩ | ⟨h1, _⟩
 · rw [hY] at h1; cases h1
   exact ⟨_, S, a, h2, hs⟩
 · rw [hY] at h1; cases h1
end
theorem LsE.get {l m : List Ex} (h : LsE l m) : l.length = m.length ∧ ∀ (j : Nat) (hj : j < l.length) (hj' : j < m.length), SmE l[j] m[j] := by
 induction h with
 | nil => exact ⟨rfl, fun j hj => absurd hj (Nat.not_lt_zero _)⟩
 | cons h _ ih =>
  refine ⟨by simp [ih.1], fun j hj hj' => ?_⟩
  cases j with
  | zero => exact h
  | succ j => exact ih.2 j (by simpa using hj) (by simpa using hj')
theorem wt_toks : ∀ (l : List L.TT) (n : Nat), Wt (l ++ [L.endT n])
 | [], _ => .inl rfl
 | _ :: r, n => .inr (wt_toks r n)
theorem ParseSpaces_all (s bl : Bs) : w7_ParseSpaces big s bl = some (true, ()) := by
 have ha := alive17
 have hN := L.big_million
 generalize big = N at ha hN
 unfold w7_ParseSpaces w7_ParseSpaces_cps
 obtain ⟨lr0, at0, ok, hL, hok⟩ := L.rLex_ok hN s
 rw [hL, bind_some']
 by_cases h300 : 300 < s.length
 · rw [if_t (by omega), ha]; rfl
 rw [if_f (by omega)]
 cases ok with
 | false => dsimp only; rw [cnf, ha]; rfl
 | true =>
  dsimp only
  rw [cnt]
  obtain ⟨lr, rfl, hlr, hSg⟩ := hok rfl
  unfold w7_ParseSpaces_j0
  rcases L.Lex_eq hN s with ⟨hl, l, hx, _⟩ | ⟨hno, _⟩
  case inr =>
   obtain ⟨e, he, hp⟩ := parse_no hN hno
   rw [hp, bind_some']
   dsimp only [pt]
   rw [he, cnf, ha]; rfl
  rcases parse_ok hN hl hx with ⟨Z, S, a, hZ, hp, _⟩ | ⟨_, e, he, hp⟩
  case inr =>
   rw [hp, bind_some']
   dsimp only [pt]
   rw [he, cnf, ha]; rfl
  rw [hp, bind_some']
  dsimp only [pt]
  rw [isNil_nil, cnt]
  have hsg := hSg l hx
  have hat : ∀ (j : Nat) (h : j < lr.length), ∃ p : Nat, lr[j].2.2.2.1 = (p : Int) ∧ p + lr[j].2.1.length ≤ s.length := sg_at hsg hx
  have hagn := fun k => sg_agn hsg s (blk bl) k
  refine Eq.trans (spaces_l1 (bl := bl) (n := s.length) (by omega) (by omega) hat lr.length 0 N [] (by omega) (by omega) (by simp)) ?_
  rw [List.nil_append, List.drop_zero, hagn 0]
  obtain ⟨l1, x1, e1, len1⟩ := L.agn_lx (blk_ok bl) hx rfl 0 0
  obtain ⟨l2, x2, e2⟩ := L.great_lx hx
  obtain ⟨T, S1, a1, p1, m1⟩ := parse_alike hN hl (s' := L.agn s (blk bl) 0 l) (by omega) hx x1 e1 hZ
  obtain ⟨U, S2, a2, p2, m2⟩ := parse_alike hN hl (s' := L.gr false s) (by rw [L.gr_len]; omega) hx x2 e2 hZ
  have hw := wt_toks l s.length
  have hll := L.Lx_len hx
  have hH := parseT_H (by omega : 1200 ≤ N) hw (by simp; omega) hZ
  rw [p1, bind_some', great_eq hN (by omega), bind_some']
  dsimp only
  rw [p2, bind_some']
  dsimp only [pt]
  obtain ⟨g1, g2⟩ := m1.items.get
  obtain ⟨g3, g4⟩ := m2.items.get
  rw [isNil_nil, cnt, cnt, cond_f (by simp [m1.kind]), cond_f (by simp [m2.kind]), cond_f (by simp [m1.table]), cond_f (by simp [m2.table]), cond_f (by simp [g1]), cond_f (by simp [g3])]
  unfold w7_ParseSpaces_j2
  have sm : ∀ {x y : Ex}, SmE x y → hgt x ≤ 4000 → onS (r7_Same N) y x = some (true, ()) := fun h hh => same_eq (by omega) h.symm (by omega)
  refine Eq.trans (spaces_l3 (a24 := Z.1.items) (b24 := T.items) (c24 := U.items) g1.symm g3.symm (by have := hH.1.2; omega) (fun j hj hj' => sm (g2 j hj hj') (hH.1.1 _ (List.getElem_mem hj))) (fun j hj hj' => sm (g4 j hj hj') (hH.1.1 _ (List.getElem_mem hj))) Z.1.items.length 0 N (by omega) (by have := hH.1.2; omega)) ?_
  dsimp only
  have w1 := sm m1.whr hH.2
  have w2 := sm m2.whr hH.2
  unfold onS at w1 w2
  rw [w1, bind_some', w2, bind_some', ha, bind_some']
  dsimp only
  rw [ct, ct, ct, if_t m1.limit.symm, decide_eq_true m2.limit.symm]
theorem ParseSpaces_pure : ParseSpaces_Pure := fun x _ => ParseSpaces_all x.1 x.2.1
end Go.Proofs.YtbikfekdakigiaaGreatDoor.E
