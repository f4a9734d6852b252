/-
  The statement DiskOffsets of the program is proved: for every input that the row speaks of, the law answers true.
  Conditions: those that the statement's row prints, and no other. This text: plain laws of the pure functions.
-/
import Derived.Test.YtkeejnlicagjiaaDiskOffsetsP0
set_option linter.unusedVariables false
set_option linter.unusedSimpArgs false
/-! DiskOffsets: an offset means the same bytes for ever. -/
namespace Go.Proofs.Ytkeejnlicagjiaa.E
open Go.Ev

abbrev Op := Int × (Int × (Int × ((List UInt8) × Unit)))

/-- The disk holds what was written, from its beginning on. -/
def Inv (w b : List UInt8) (p s : Int) : Prop := ∃ q t : Nat, p = (q : Int) ∧ s = (t : Int) ∧ q ≤ w.length ∧ b = w.drop q ∧ t ≤ b.length

theorem inv_len {w : List UInt8} {q : Nat} (h : q ≤ w.length) : (w.drop q).length + q = w.length := by simp; omega

theorem offs_j4 (N : Nat) (R : Type) (k0 : (List Op) → (List UInt8) → Int → (List UInt8) → Int → Int → Int → Int → Int → (List UInt8) → Option R) (k1 : (List Op) → Bool → (List UInt8) → Int → (List UInt8) → Int → Int → Int → Int → Int → (List UInt8) → Option R)
    (v : List Op) (w : List UInt8) (i : Int) (b : List UInt8) (p s : Int) (a c d : Int) (x : List UInt8) (hw : w.length ≤ 100000) (h : Inv w b p s) :
    law06_DiskOffsets_j4 N R k0 k1 v w i b p s a c d x = k0 v w i b p s a c d x := by
  obtain ⟨q, t, rfl, rfl, hq, rfl, ht⟩ := h
  have hl := inv_len hq
  unfold law06_DiskOffsets_j4
  have e1 : disk_Disk_Begin N (w.drop q) (q : Int) (t : Int) = some ((q : Int), ()) := rfl
  have e2 := end_eq N (w.drop q) q (t : Int) (by omega)
  have e3 := read_eq N q (q + (w.drop q).length) (w.drop q) q (t : Int) (by omega) (by omega) (by omega) (by omega)
  rw [show q + (w.drop q).length - q = (w.drop q).length by omega, List.take_length, show q - q = 0 by omega, List.drop_zero] at e3
  have e4 := read_low N ((q : Int) - 1) ((q + (w.drop q).length : Nat) : Int) (w.drop q) q (t : Int) (by omega)
  simp only [e1, e2, bind_some', e3, wrap_i64_id (x := (q : Int) - 1) (by omega) (by omega), e4]
  simp only [decide_true, Bool.not_true, cond_false, List.take_length, Int.toNat_natCast]
  rw [dec_t (show ((q + (w.drop q).length : Nat) : Int) = (w.length : Int) by omega), if_t (show (0 : Int) ≤ q ∧ (q : Int) ≤ ((w.length : Nat) : Int) by omega)]
  simp

theorem offs_j3 (N : Nat) (R : Type) (k0 : (List Op) → (List UInt8) → Int → (List UInt8) → Int → Int → Int → Int → Int → (List UInt8) → Option R) (k1 : (List Op) → Bool → (List UInt8) → Int → (List UInt8) → Int → Int → Int → Int → Int → (List UInt8) → Option R)
    (v : List Op) (w : List UInt8) (i : Int) (b : List UInt8) (p s : Int) (a c d : Int) (x : List UInt8) (hw : w.length ≤ 100000) (h : Inv w b p s) :
    ∃ b' p' s', Inv w b' p' s' ∧ law06_DiskOffsets_j3 N R k0 k1 v w i b p s a c d x = k0 v w i b' p' s' a c d x := by
  unfold law06_DiskOffsets_j3
  by_cases h3 : a = 3
  · rw [if_t h3]
    obtain ⟨q, t, rfl, rfl, hq, rfl, ht⟩ := h
    have hl := inv_len hq
    have hb : ∀ (y : List UInt8) (p' s' : Int), disk_Disk_Begin N y p' s' = some (p', ()) := fun _ _ _ => rfl
    by_cases hc : c < q ∨ (q : Int) + t < c
    · have e := drop_not N c (w.drop q) q t (by omega) ht hc
      have hin : Inv w (w.drop q) q t := ⟨q, t, rfl, rfl, hq, rfl, ht⟩
      refine ⟨_, _, _, hin, ?_⟩
      have es := safe_eq N (w.drop q) q t (by omega)
      simp only [e, hb, bind_some']
      rw [if_f (by decide), show (!decide ((1 : Int) = 0)) = true from rfl, cond_t rfl]
      simp only [decide_true, Bool.not_true, cond_false]
      by_cases h1 : (q : Int) ≤ c
      · rw [if_t h1, es, bind_some', dec_f (show ¬ (1 : Int) = 0 by decide), dec_f (show ¬ c ≤ ((q + t : Nat) : Int) by omega)]
        simp only [beq_self_eq_true, Bool.not_true, cond_false]
        rw [offs_j4 N R _ _ v w i _ _ _ a c d x hw hin]
      · rw [if_f h1, dec_f (show ¬ (1 : Int) = 0 by decide)]
        simp only [beq_self_eq_true, Bool.not_true, cond_false]
        rw [offs_j4 N R _ _ v w i _ _ _ a c d x hw hin]
    · obtain ⟨c, rfl⟩ : ∃ k : Nat, c = (k : Int) := ⟨c.toNat, by omega⟩
      have e := drop_eq N c (w.drop q) q t (by omega) ht (by omega) (by omega)
      have hin : Inv w ((w.drop q).drop (c - q)) c ((t - (c - q) : Nat) : Int) := ⟨c, _, rfl, rfl, by omega, by rw [List.drop_drop]; congr 1; omega, by simp at ht ⊢; omega⟩
      refine ⟨_, _, _, hin, ?_⟩
      have es := safe_eq N ((w.drop q).drop (c - q)) c (t - (c - q)) (by omega)
      simp only [e, hb, bind_some']
      simp only [decide_true, Bool.not_true, cond_false, cond_true]
      rw [if_t (show (q : Int) ≤ c by omega), es, bind_some', dec_t (show (c : Int) ≤ ((c + (t - (c - q)) : Nat) : Int) by omega)]
      simp only [beq_self_eq_true, Bool.not_true, cond_false]
      rw [offs_j4 N R _ _ v w i _ _ _ a c d x hw hin]
  · rw [if_f h3]
    exact ⟨b, p, s, h, offs_j4 N R _ _ v w i b p s a c d x hw h⟩

theorem offs_j2 (N : Nat) (R : Type) (k0 : (List Op) → (List UInt8) → Int → (List UInt8) → Int → Int → Int → Int → Int → (List UInt8) → Option R) (k1 : (List Op) → Bool → (List UInt8) → Int → (List UInt8) → Int → Int → Int → Int → Int → (List UInt8) → Option R)
    (v : List Op) (w : List UInt8) (i : Int) (b : List UInt8) (p s : Int) (a c d : Int) (x : List UInt8) (hw : w.length ≤ 100000) (h : Inv w b p s) :
    ∃ b' p' s', Inv w b' p' s' ∧ law06_DiskOffsets_j2 N R k0 k1 v w i b p s a c d x = k0 v w i b' p' s' a c d x := by
  unfold law06_DiskOffsets_j2
  by_cases h2 : a = 2
  · rw [if_t h2, show disk_Disk_Sync N b p s = some (0, (b, (p, ((b.length : Int), ())))) from rfl, bind_some']
    obtain ⟨q, t, rfl, rfl, hq, rfl, ht⟩ := h
    exact offs_j3 N R _ _ v w i _ _ _ a c d x hw ⟨q, _, rfl, rfl, hq, rfl, Nat.le_refl _⟩
  · rw [if_f h2]
    exact offs_j3 N R _ _ v w i b p s a c d x hw h

theorem offs_loop (N : Nat) (R : Type) (k0 : List UInt8 → Int → Int → Option R) (k1 : Bool → List UInt8 → Int → Int → Option R) (v : List Op) :
    ∀ (d i : Nat) (w b : List UInt8) (p s : Int), i + d = 61 → w.length ≤ 300 * i → Inv w b p s → ∀ m, d < m →
      ∃ b' p' s', law06_DiskOffsets_l0 N R k0 k1 m v w (i : Int) b p s = k0 b' p' s'
  | d, i, w, b, p, s, hi, hw, h, m, hm => by
    obtain ⟨m, rfl⟩ : ∃ k, m = k + 1 := ⟨m - 1, by omega⟩
    simp only [law06_DiskOffsets_l0, law06_DiskOffsets_l0B]
    by_cases hlt : i < v.length
    · rw [if_t (by omega)]
      by_cases h60 : i < 60
      · rw [if_t (by omega), nth_lt hlt, bind_some']
        have next : ∀ (w' b' : List UInt8) (p' s' : Int), w'.length ≤ 300 * (i + 1) → Inv w' b' p' s' → ∃ b'' p'' s'', law06_DiskOffsets_l0 N R k0 k1 m v w' (IntKind.wrap .i64 ((i : Int) + 1)) b' p' s' = k0 b'' p'' s'' := by
          intro w' b' p' s' hw' hI
          rw [wrap_succ h60 (by omega)]
          exact offs_loop N R k0 k1 v (d - 1) (i + 1) w' b' p' s' (by omega) hw' hI m (by omega)
        generalize v[i] = o
        obtain ⟨a, c, e, x, ⟨⟩⟩ := o
        dsimp only
        by_cases hx : 300 < (x.length : Int)
        · rw [if_t hx]; exact next w b p s (by omega) h
        rw [if_f hx]
        by_cases h1 : a = 1
        · rw [if_t h1]
          obtain ⟨q, t, rfl, rfl, hq, rfl, ht⟩ := h
          have hl := inv_len hq
          rw [append_eq N x (w.drop q) q (t : Int) (by omega), bind_some']
          dsimp only
          simp only [decide_true, Bool.not_true, cond_false]
          rw [dec_t (show ((q + (w.drop q).length : Nat) : Int) = (w.length : Int) by omega)]
          simp only [Bool.not_true, cond_false]
          rw [cond_t (room_one (by omega))]
          have hI : Inv (w ++ x) (w.drop q ++ x) q t := ⟨q, t, rfl, rfl, by simp; omega, by rw [List.drop_append_of_le_length hq], by simp at ht ⊢; omega⟩
          obtain ⟨b', p', s', hI', e'⟩ := offs_j2 N R (fun v19 v20 v21 v22 v23 v24 _ _ _ _ => law06_DiskOffsets_l0 N R k0 k1 m v19 v20 (IntKind.wrap .i64 (v21 + 1)) v22 v23 v24) (fun _ v30 _ _ v33 v34 v35 _ _ _ _ => k1 v30 v33 v34 v35) v (w ++ x) (i : Int) _ _ _ a c e x (by simp; omega) hI
          obtain ⟨b'', p'', s'', e''⟩ := next _ b' p' s' (by simp; omega) hI'
          exact ⟨b'', p'', s'', e'.trans e''⟩
        · rw [if_f h1]
          obtain ⟨b', p', s', hI', e'⟩ := offs_j2 N R (fun v19 v20 v21 v22 v23 v24 _ _ _ _ => law06_DiskOffsets_l0 N R k0 k1 m v19 v20 (IntKind.wrap .i64 (v21 + 1)) v22 v23 v24) (fun _ v30 _ _ v33 v34 v35 _ _ _ _ => k1 v30 v33 v34 v35) v w (i : Int) b p s a c e x (by omega) h
          obtain ⟨b'', p'', s'', e''⟩ := next _ b' p' s' (by omega) hI'
          exact ⟨b'', p'', s'', e'.trans e''⟩
      · rw [if_f (by omega)]; exact ⟨_, _, _, rfl⟩
    · rw [if_f (by omega)]; exact ⟨_, _, _, rfl⟩

theorem DiskOffsets_all (v : List Op) : law06_DiskOffsets big v = some (true, ()) := by
  unfold law06_DiskOffsets law06_DiskOffsets_cps
  rw [show disk_New big = some (0, (0, ())) from rfl, bind_some']
  obtain ⟨b, p, s, e⟩ := offs_loop big _ (fun (v3 : (List UInt8)) (v4 : Int) (v5 : Int) => (Option.bind (law06_alive big) fun (v6 : Bool × Unit) => some (v6.1, ()))) (fun (v7 : Bool) (v8 : (List UInt8)) (v9 : Int) (v10 : Int) => some (v7, ())) v 61 0 [] [] 0 0 rfl (by simp) ⟨0, 0, rfl, rfl, by simp, rfl, by simp⟩ big (big_gt _ (by decide))
  refine Eq.trans e ?_
  rw [alive06]; rfl

theorem DiskOffsets_pure : DiskOffsets_Pure := fun _ _ => DiskOffsets_all ..

end Go.Proofs.Ytkeejnlicagjiaa.E
