/-
  Plain laws of the pure functions.
  Conditions: those that each statement prints, and no other.
-/
import Derived.Test.YtbikfekdakigiaaGreatDoorPRLexP
set_option linter.unusedVariables false
set_option linter.unusedSimpArgs false
namespace Go.Proofs.YtbikfekdakigiaaGreatDoor.E.L
open Go.Ev
set_option maxRecDepth 100000
def rsigns : List Bs := [[60, 61], [62, 61], [60, 62], [40], [41], [44], [42], [43], [45], [47], [61], [60], [62], [46], [59]]
def firstS (s : Bs) : List Bs → Bs
 | [] => []
 | w :: r => if w <+: s then w else firstS s r
theorem firstS_pre (s : Bs) : ∀ l : List Bs, firstS s l = [] ∨ (firstS s l ∈ l ∧ firstS s l <+: s)
 | [] => .inl rfl
 | w :: r => by
  unfold firstS
  split
  · rename_i h; exact .inr ⟨by simp, h⟩
  · rcases firstS_pre s r with h | ⟨h1, h2⟩
    · exact .inl h
    · exact .inr ⟨by simp [h1], h2⟩
section
variable {N : Nat} (hN : 1000000 < N)
include hN
theorem rsign_eq {s : Bs} (hs : s.length ≤ 1000) : Sm (fun v => v.2.1 = firstS s rsigns) (r6_sign N s) := by
 have loop : ∀ {k0 k1 : Int → Bs → Int → Int → Bs → Int → Option RT}, (∀ a t b c d e, firstS s rsigns = [] → Sm (fun v => v.2.1 = firstS s rsigns) (k0 a t b c d e)) → (∀ a t b c d e, t = firstS s rsigns → Sm (fun v => v.2.1 = firstS s rsigns) (k1 a t b c d e)) →
  ∀ (m i fuel : Nat), i + m = rsigns.length → m < fuel → firstS s rsigns = firstS s (rsigns.drop i) → Sm (fun v => v.2.1 = firstS s rsigns) (r6_sign_l0 N RT k0 k1 fuel s rsigns (i : Int) 0 [] 0 0 [] 0) := by
  intro k0 k1 h0 h1 m
  induction m with
  | zero =>
   intro i fuel e1 e2 e3
   obtain ⟨f, rfl⟩ : ∃ f, fuel = f + 1 := ⟨fuel - 1, by omega⟩
   show Sm _ (r6_sign_l0B N RT _ k0 k1 s rsigns (i : Int) 0 [] 0 0 [] 0)
   unfold r6_sign_l0B
   rw [if_f (by omega)]
   refine h0 _ _ _ _ _ _ ?_
   rw [e3, List.drop_eq_nil_of_le (by omega)]; rfl
  | succ m ih =>
   intro i fuel e1 e2 e3
   obtain ⟨f, rfl⟩ : ∃ f, fuel = f + 1 := ⟨fuel - 1, by omega⟩
   show Sm _ (r6_sign_l0B N RT (r6_sign_l0 N RT k0 k1 f) k0 k1 s rsigns (i : Int) 0 [] 0 0 [] 0)
   unfold r6_sign_l0B
   have hi : i < rsigns.length := by omega
   have h15 : rsigns.length = 15 := rfl
   rw [List.drop_eq_getElem_cons hi] at e3
   unfold firstS at e3
   rw [if_t (by omega), nth_lt hi, bind_some', bind_some', bind_some', bind_some', wr1 (by omega)]
   generalize rsigns[i] = w at *
   by_cases hl : w.length ≤ s.length
   · rw [if_t (by omega), if_t (by omega), Int.toNat_natCast, List.drop_zero]
     by_cases hp : w <+: s
     · rw [if_pos hp] at e3
       rw [if_t (List.prefix_iff_eq_take.1 hp).symm]
       exact h1 _ _ _ _ _ _ e3.symm
     · rw [if_neg hp] at e3
       rw [if_f (fun h => hp (List.prefix_iff_eq_take.2 h.symm))]
       exact ih (i + 1) f (by omega) (by omega) e3
   · have hp : ¬ w <+: s := fun h => hl h.length_le
     rw [if_neg hp] at e3
     rw [if_f (by omega)]
     exact ih (i + 1) f (by omega) (by omega) e3
 unfold r6_sign r6_sign_cps
 exact loop (fun _ _ _ _ _ _ h => .mk h.symm) (fun _ _ _ _ _ _ h => .mk h) 15 0 N rfl (by omega) rfl
theorem rsign_ok {s : Bs} (hs : s.length ≤ 1000) : Sm (Rk s (signP s)) (r6_sign N s) := by
 obtain ⟨v, hv, h⟩ := rsign_eq hN hs
 refine ⟨v, hv, ?_⟩
 have h : v.2.1 = firstS s rsigns := h
 rcases firstS_pre s rsigns with h0 | ⟨h1, h2⟩
 · exact ⟨by rw [h, h0]; exact Nat.zero_le _, .inl (h.trans h0)⟩
 · refine ⟨by rw [h]; exact h2.length_le, .inr fun z hz => ?_⟩
   rw [h]
   unfold rsigns at *
   unfold firstS at *
   unfold signP at hz
   split at hz
   · rename_i hp; cases hz; rw [if_pos hp]
   · rename_i hp
     rw [if_neg hp] at h1 h2 ⊢
     unfold firstS at *
     split at hz
     · rename_i hp; cases hz; rw [if_pos hp]
     · rename_i hp
       rw [if_neg hp] at h1 h2 ⊢
       unfold firstS at *
       split at hz
       · rename_i hp; cases hz; rw [if_pos hp]
       · rename_i hp
         rw [if_neg hp] at h1 h2 ⊢
         have one : ∀ w ∈ ([[40], [41], [44], [42], [43], [45], [47], [61], [60], [62], [46], [59]] : List Bs), w.length = 1 := by decide
         have hl : (firstS s [[40], [41], [44], [42], [43], [45], [47], [61], [60], [62], [46], [59]]).length = 1 := by
          rcases firstS_pre s [[40], [41], [44], [42], [43], [45], [47], [61], [60], [62], [46], [59]] with h | ⟨h, _⟩
          · rw [h] at h1; simp at h1
          · exact one _ h
         rw [hl]
         split at hz
         · cases hz
         · split at hz
           · cases hz; rfl
           · cases hz
theorem rnext_ok {c : UInt8} {r : Bs} (hs : (c :: r).length ≤ 1000) : Sm (Rk (c :: r) (nextP (c :: r))) (r6_next N (c :: r)) := by
 have word : ∀ {k0 : Bs → Int → Int → Bs → Int → Int → Bs → Int → Option RT}, ofB c = 2 → (Sm (Rk (c :: r) (some (1, (Lib.toLowerA ((c :: r).take (spn isPartB (c :: r))), (0, (0, [])))))) (k0 (c :: r) ((spn isPartB (c :: r) : Nat) : Int) 0 [] 0 0 [] 0)) →
  Sm (Rk (c :: r) (some (1, (Lib.toLowerA ((c :: r).take (spn isPartB (c :: r))), (0, (0, [])))))) (r6_next_l1 N RT k0 N (c :: r) 0 true 0 [] 0 0 [] 0) := by
  intro k0 hc hk
  have loop : ∀ (m i fuel : Nat), i + m = (c :: r).length → m + 1 < fuel → i + 1 + spn isPartB ((c :: r).drop (i + 1)) = spn isPartB (c :: r) → i < (c :: r).length →
   Sm (Rk (c :: r) (some (1, (Lib.toLowerA ((c :: r).take (spn isPartB (c :: r))), (0, (0, [])))))) (r6_next_l1 N RT k0 fuel (c :: r) (i : Int) true 0 [] 0 0 [] 0) := by
   intro m
   induction m with
   | zero => intro i fuel h1 h2 h3 h4; omega
   | succ m ih =>
    intro i fuel h1 h2 h3 h4
    obtain ⟨f, rfl⟩ : ∃ f, fuel = f + 2 := ⟨fuel - 2, by omega⟩
    show Sm _ (r6_next_l1B N RT (r6_next_l1 N RT k0 (f + 1)) k0 (c :: r) (i : Int) true 0 [] 0 0 [] 0)
    unfold r6_next_l1B
    rw [cond_t rfl, wr1 (by omega)]
    have stop : i + 1 = spn isPartB (c :: r) → Sm (Rk (c :: r) (some (1, (Lib.toLowerA ((c :: r).take (spn isPartB (c :: r))), (0, (0, [])))))) (r6_next_l1 N RT k0 (f + 1) (c :: r) ((i + 1 : Nat) : Int) false 0 [] 0 0 [] 0) := by
     intro he
     show Sm _ (r6_next_l1B N RT (r6_next_l1 N RT k0 f) k0 (c :: r) ((i + 1 : Nat) : Int) false 0 [] 0 0 [] 0)
     unfold r6_next_l1B
     rw [cond_f rfl, he]; exact hk
    by_cases hi : i + 1 < (c :: r).length
    · rw [if_t (by omega), nth_lt hi, bind_some', rpart_eq, bind_some']
      rw [List.drop_eq_getElem_cons hi, spn_cons] at h3
      dsimp only
      cases hp : isPartB (c :: r)[i + 1]
      · rw [hp, if_neg (by simp)] at h3
        exact stop (by omega)
      · rw [hp, if_pos rfl] at h3
        exact ih (i + 1) (f + 1) (by omega) (by omega) (by omega) hi
    · rw [if_f (by omega)]
      rw [List.drop_eq_nil_of_le (by omega)] at h3
      exact stop h3
  refine loop (c :: r).length 0 N (by omega) (by omega) ?_ (by simp)
  rw [spn_cons, if_pos (by simp [isPartB, hc])]
  simp only [Nat.zero_add, List.drop_succ_cons, List.drop_zero]; omega
 have j0 : ∀ flag : Bool, (flag = true ↔ [39] <+: r ∧ (c = 120 ∨ c = 88)) →
  Sm (Rk (c :: r) (nextP (c :: r))) (r6_next_j0 N RT (fun v8 v9 v10 v11 v12 v13 v14 => Option.bind (r6_sign N v8) fun v15 => some (v15.1, (v15.2.1, (v15.2.2.1, (v15.2.2.2.1, (v15.2.2.2.2.1, (v15.2.2.2.2.2.1, ()))))))) (fun v16 v17 v18 v19 v20 v21 v22 => some (v17, (v18, (v19, (v20, (v21, (v22, ()))))))) (c :: r) (decide (ofB c = 2)) (decide (ofB c = 3)) flag 0 [] 0 0 [] 0) := by
  intro flag hf
  have again : ∀ {o : Option Tk} {x : Option RT}, Sm (Rk (c :: r) o) x → Sm (Rk (c :: r) o) (Option.bind x fun v95 => some (v95.1, (v95.2.1, (v95.2.2.1, (v95.2.2.2.1, (v95.2.2.2.2.1, (v95.2.2.2.2.2.1, ()))))))) := fun h => sm_bind h fun a ha => .mk ha
  unfold r6_next_j0 nextP
  dsimp only
  cases flag with
  | true =>
   have hx := hf.1 rfl
   have h2 : ofB c = 2 := by rcases hx.2 with rfl | rfl <;> decide
   rw [if_pos h2, if_pos hx, cond_t rfl]
   exact again (rbytes_ok hN (by simp) hs)
  | false =>
   have hx : ¬ ([39] <+: r ∧ (c = 120 ∨ c = 88)) := fun h => by cases hf.2 h
   rw [cond_f rfl]
   by_cases h2 : ofB c = 2
   · rw [if_t h2, if_pos h2, if_neg hx]
     refine word h2 ?_
     have hsp := spn_le isPartB (c :: r)
     refine sm_t (by omega) ?_
     rw [Int.toNat_natCast, List.drop_zero]
     refine sm_bind (small_tot hN (by rw [List.length_take]; omega)) fun a ha => .mk ?_
     have ha' : a.1.length = spn isPartB (c :: r) := by rw [ha, List.length_take]; omega
     exact ⟨by show a.1.length ≤ _; omega, .inr fun z hz => by cases hz; show a.1.length = _; rw [ha']; simp only [Lib.toLowerA, List.length_map, List.length_take]; omega⟩
   · rw [if_f h2, if_neg h2]
     by_cases h3 : ofB c = 3
     · rw [if_t h3, if_pos h3]
       exact again (rnumber_ok hN hs)
     · rw [if_f h3, if_neg h3]
       rw [show nth (c :: r) 0 = some c from rfl, bind_some']
       by_cases hq : c = 39
       · rw [if_t (c39.2 hq), if_pos hq]
         exact again (rtext_ok hN hs)
       · rw [if_f (fun h => hq (c39.1 h)), if_neg hq]
         exact again (rsign_ok hN hs)
 have n0 : nth (c :: r) 0 = some c := rfl
 have c120 : ((c.toNat : Int) = 120) ↔ c = 120 := ⟨fun h => UInt8.toNat_inj.1 (by show c.toNat = 120; omega), fun h => by rw [h]; rfl⟩
 have c88 : ((c.toNat : Int) = 88) ↔ c = 88 := ⟨fun h => UInt8.toNat_inj.1 (by show c.toNat = 88; omega), fun h => by rw [h]; rfl⟩
 have sec : ∀ (hc : c = 120 ∨ c = 88), (∀ d q, r = d :: q → (decide ((d.toNat : Int) = 39) = true ↔ [39] <+: r ∧ (c = 120 ∨ c = 88))) := by
  intro hc d q hr
  rw [hr, decide_eq_true_iff, c39]
  simp [hc, List.cons_prefix_cons, eq_comm]
 have nos : r = [] → (false = true ↔ [39] <+: r ∧ (c = 120 ∨ c = 88)) := fun h => by rw [h]; simp
 unfold r6_next r6_next_cps
 rw [n0, bind_some', rletter_eq, bind_some', bind_some', rfigure_eq, bind_some', bind_some', bind_some']
 dsimp only
 have one : ∀ (hc : c = 120 ∨ c = 88), Sm (Rk (c :: r) (nextP (c :: r))) (bif (decide (1 < ((c :: r).length : Int))) then
  (Option.bind (nth (c :: r) 1) fun v7 => (r6_next_j0 N RT (fun v8 v9 v10 v11 v12 v13 v14 => Option.bind (r6_sign N v8) fun v15 => some (v15.1, (v15.2.1, (v15.2.2.1, (v15.2.2.2.1, (v15.2.2.2.2.1, (v15.2.2.2.2.2.1, ()))))))) (fun v16 v17 v18 v19 v20 v21 v22 => some (v17, (v18, (v19, (v20, (v21, (v22, ()))))))) (c :: r) (decide (ofB c = 2)) (decide (ofB c = 3)) (decide ((v7.toNat : Int) = 39)) 0 [] 0 0 [] 0))
  else (r6_next_j0 N RT (fun v8 v9 v10 v11 v12 v13 v14 => Option.bind (r6_sign N v8) fun v15 => some (v15.1, (v15.2.1, (v15.2.2.1, (v15.2.2.2.1, (v15.2.2.2.2.1, (v15.2.2.2.2.2.1, ()))))))) (fun v16 v17 v18 v19 v20 v21 v22 => some (v17, (v18, (v19, (v20, (v21, (v22, ()))))))) (c :: r) (decide (ofB c = 2)) (decide (ofB c = 3)) false 0 [] 0 0 [] 0)) := by
  intro hc
  by_cases hr : r = []
  · rw [if_f (by rw [hr]; simp)]; exact j0 _ (nos hr)
  · obtain ⟨d, q, hr⟩ := List.exists_cons_of_ne_nil hr
    rw [if_t (by rw [hr]; simp; omega), show nth (c :: r) 1 = some d by rw [hr]; rfl, bind_some']; exact j0 _ (sec hc d q hr)
 by_cases h1 : c = 120
 · rw [if_t (c120.2 h1)]; exact one (.inl h1)
 · rw [if_f (fun h => h1 (c120.1 h))]
   by_cases h2 : c = 88
   · rw [if_t (c88.2 h2)]; exact one (.inr h2)
   · rw [if_f (fun h => h2 (c88.1 h))]
     exact j0 false (by simp [h1, h2])
inductive Sg : List TT → List TT → Prop
 | nil : Sg [] []
 | cons {a b : TT} {l m : List TT} (h : a.2.2.2.1 = b.2.2.2.1) (h' : a.2.1.length = b.2.1.length) (hl : Sg l m) : Sg (a :: l) (b :: m)
theorem rlex_loop {R : Type} {k0 : Bs → List TT → Option R} {k1 : Bs → Int → Bool → List TT → Option R} {s : Bs} (hs : s.length ≤ 1000) : ∀ (m i fuel : Nat) (acc : List TT), i + m = s.length → m < fuel → acc.length ≤ i →
 (∃ at_ acc', r6_Lex_l0 N R k0 k1 fuel s acc (i : Int) = k1 s at_ false acc') ∨
  ∃ lr, (∀ l, Lx i (s.drop i) l → Sg lr l) ∧ acc.length + lr.length ≤ s.length ∧ r6_Lex_l0 N R k0 k1 fuel s acc (i : Int) = k0 s (acc ++ lr) := by
 intro m
 induction m using Nat.strongRecOn with
 | ind m ih =>
  intro i fuel acc h1 h2 h3
  obtain ⟨f, rfl⟩ : ∃ f, fuel = f + 1 := ⟨fuel - 1, by omega⟩
  show (∃ at_ acc', r6_Lex_l0B N R (r6_Lex_l0 N R k0 k1 f) k0 k1 s acc (i : Int) = _) ∨ ∃ lr, _ ∧ _ ∧ r6_Lex_l0B N R (r6_Lex_l0 N R k0 k1 f) k0 k1 s acc (i : Int) = _
  unfold r6_Lex_l0B
  by_cases hi : i < s.length
  · have e := List.drop_eq_getElem_cons hi
    rw [if_t (by omega), nth_lt hi, bind_some', rblank_eq, bind_some']
    dsimp only
    by_cases hb : ofB s[i] = 1
    · rw [if_t hb, wr1 (by omega)]
      rcases ih (m - 1) (by omega) (i + 1) f acc (by omega) (by omega) (by omega) with h | ⟨lr, g1, g2, g3⟩
      · exact .inl h
      · refine .inr ⟨lr, fun l hl => ?_, g2, g3⟩
        rw [e] at hl
        cases hl with
        | blank _ h => exact g1 _ h
        | tok h => exact absurd hb h
    · rw [if_f hb, if_t (by omega), Int.toNat_natCast, List.take_length, e]
      obtain ⟨v, hv, hk⟩ := rnext_ok hN (c := s[i]) (r := s.drop (i + 1)) (by simp; omega)
      rw [hv, bind_some']
      by_cases h0 : v.2.1 = []
      · rw [if_t h0]; exact .inl ⟨_, _, rfl⟩
      · rw [if_f h0, cond_t (room_of (by simp; omega))]
        obtain ⟨k1', k2⟩ := hk
        rw [← e] at k1' k2
        simp only [List.length_drop] at k1'
        have hpos : 1 ≤ v.2.1.length := List.length_pos_iff.2 h0
        have k2 := k2.resolve_left h0
        rw [show IntKind.wrap .i64 ((i : Int) + (v.2.1.length : Int)) = ((i + v.2.1.length : Nat) : Int) by rw [wrap_i64_id (by omega) (by omega)]; omega]
        rcases ih (m - v.2.1.length) (by omega) (i + v.2.1.length) f (acc ++ [(v.1, (v.2.1, ((v.2.2.1, (v.2.2.2.1, (v.2.2.2.2.1, ()))), ((i : Int), ()))))]) (by omega) (by omega) (by simp; omega) with h | ⟨lr, g1, g2, g3⟩
        · exact .inl h
        · refine .inr ⟨(v.1, (v.2.1, ((v.2.2.1, (v.2.2.2.1, (v.2.2.2.2.1, ()))), ((i : Int), ())))) :: lr, fun l hl => ?_, by simp at g2 ⊢; omega, by rw [g3]; simp⟩
          rw [e] at k2
          cases hl with
          | blank h _ => exact absurd h hb
          | tok _ hn h =>
           have hz := k2 _ hn
           refine .cons rfl hz (g1 _ ?_)
           rw [hz]
           rw [← e, List.drop_drop] at h
           exact h
  · rw [if_f (by omega), List.drop_eq_nil_of_le (by omega)]
    exact .inr ⟨[], fun l hl => by cases hl; exact .nil, by simp; omega, by simp⟩
theorem rLex_ok (s : Bs) : ∃ lr at_ ok, r6_Lex N s = some (lr, (at_, (ok, ()))) ∧ (ok = true → ∃ l', lr = l' ++ [endT s.length] ∧ l'.length ≤ s.length ∧ ∀ l, Lx 0 s l → Sg l' l) := by
 unfold r6_Lex r6_Lex_cps
 by_cases h : 1000 < s.length
 · rw [if_t (by omega)]; exact ⟨_, _, _, rfl, fun h => by cases h⟩
 · rw [if_f (by omega)]
   rcases rlex_loop hN (R := List TT × Int × Bool × Unit) (k0 := fun v2 v3 => bif (room 64 (v3.length + ([(6, ([], ((0, (0, ([], ()))), ((v2.length : Int), ()))))] : List TT).length)) then some (v3 ++ [(6, ([], ((0, (0, ([], ()))), ((v2.length : Int), ()))))], (0, (true, ()))) else none)
    (k1 := fun _ v5 v6 _ => some ([], (v5, (v6, ())))) (s := s) (by omega) s.length 0 N [] (by omega) (by omega) (by simp) with ⟨a, acc, h⟩ | ⟨lr, g1, g2, g3⟩
   · exact ⟨_, _, _, h, fun h => by cases h⟩
   · refine ⟨lr ++ [endT s.length], 0, true, ?_, fun _ => ⟨lr, rfl, by simpa using g2, by simpa using g1⟩⟩
     refine g3.trans ?_
     rw [List.nil_append, cond_t (room_of (by simp at g2 ⊢; omega))]
     rfl
end
end Go.Proofs.YtbikfekdakigiaaGreatDoor.E.L
