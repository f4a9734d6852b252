/-
  Plain laws of the pure functions.
  Conditions: those that each statement prints, and no other.
-/
import Derived.Test.YtiloinbeojampaaGreatDoorPExprTP
import Derived.Test.YtiloinbeojampaaGreatDoorPEvalTP
set_option linter.unusedVariables false
set_option linter.unusedSimpArgs false
/-! Without columns nothing hangs on the row. -/
namespace Go.Proofs.YtiloinbeojampaaGreatDoor.E
open Go.Ev
set_option maxRecDepth 100000

theorem alive20 : law20_alive big = some (true, ()) := by rw [big_eq]; kernel_rfl

theorem few_t (N : Nat) (hN : 1000 ≤ N) (l : List Vl) : ∃ b, law20_few N l = some (b, ()) ∧ (b = true → l.length ≤ 300) := by
  unfold law20_few law20_few_cps
  have key : ∀ (m i : Nat), i ≤ l.length → i ≤ 300 → 300 - i < m → ∃ b, law20_few_l0 N (Bool × Unit) (some (true, ())) (fun v => some (v, ())) m l (i : Int) = some (b, ()) ∧ (b = true → l.length ≤ 300) := by
    intro m
    induction m with
    | zero => intro i _ _ h; exact absurd h (Nat.not_lt_zero _)
    | succ m ih =>
      intro i h1 h2 h3
      show ∃ b, law20_few_l0B N _ (law20_few_l0 N _ _ _ m) _ _ l (i : Int) = _ ∧ _
      unfold law20_few_l0B
      by_cases h : i < l.length
      · rw [if_t (by omega)]
        by_cases e : i = 300
        · rw [if_t (by omega)]; exact ⟨false, rfl, fun h => by cases h⟩
        · rw [if_f (by omega), nth_lt h, bind_some']
          by_cases hs : 300 < ((l[i]).2.2.1.length : Int)
          · rw [if_t hs]; exact ⟨false, rfl, fun h => by cases h⟩
          · rw [if_f hs, show IntKind.wrap .i64 ((i : Int) + 1) = ((i + 1 : Nat) : Int) by rw [wrap_i64]; omega]
            exact ih (i + 1) h (by omega) (by omega)
      · rw [if_f (by omega)]; exact ⟨true, rfl, fun _ => by omega⟩
  exact key N 0 (Nat.zero_le _) (by omega) (by omega)

theorem grX_ge (x : Ex) : -1 ≤ grX x := by
  obtain ⟨op, vk, vn, vs, tab, name, num, ks, kind, at_⟩ := x
  simp only [grX]
  refine Int.le_trans ?_ (grL_ge ks _)
  split
  · exact (le_maxI (-1) num).1
  · exact Int.le_refl _

theorem atT (N : Nat) {e : Err} (h : errOk e = true) : fault_At N e = some (errAt e, ()) := by
  unfold fault_At fault_At_cps
  rw [h]; rfl

theorem const_j0 {x : Ex} (hx : hgt x ≤ 4000) {row more : List Vl} (h1 : row.length ≤ 300) (h2 : more.length ≤ 300) :
    law20_EvalConst_j0 big (Bool × Unit) (fun v11 _ _ _ _ _ _ _ _ _ _ => some (v11, ())) row more x.op x.vk x.vn x.vs x.tab x.name x.num x.kids x.kind x.at_ = some (true, ()) := by
  have hN : 1000000 ≤ big := by rw [big_eq]; decide
  have hN2 : 10000000000 ≤ big := by rw [big_eq]; decide
  unfold law20_EvalConst_j0
  rw [numbered_eq big hN x (by omega), bind_some']
  have hy : hgt (numX x) ≤ 4000 := by rw [hgt_num]; exact hx
  generalize hyy : numX x = y at hy
  show Option.bind (law20_greatest big y.op y.vk y.vn y.vs y.tab y.name y.num y.kids y.kind y.at_) _ = _
  rw [greatest_eq big hN y (by omega), bind_some']
  dsimp only
  by_cases hg : (row.length : Int) ≤ grX y
  · rw [if_t hg, alive20]; rfl
  · rw [if_f hg]
    have g1 := grX_ge y
    have hw : IntKind.wrap .i64 (grX y + 1) = grX y + 1 := wrap_i64_id (by omega) (by omega)
    obtain ⟨k, hk⟩ : ∃ k : Nat, grX y + 1 = (k : Int) := ⟨(grX y + 1).toNat, by omega⟩
    have hcol : colsX (ColB row (row.take k ++ more)) y := by
      refine colsX_mono (fun n hn => ?_) y (cols_gr y)
      by_cases h0 : n < 0
      · exact .inl h0
      · refine .inr ⟨by omega, by omega, by simp only [List.length_append, List.length_take]; omega, ?_⟩
        obtain ⟨i, rfl⟩ := Int.eq_ofNat_of_zero_le (show 0 ≤ n by omega)
        rw [nth_nat, nth_nat, List.getElem?_append_left (by simp only [List.length_take]; omega), List.getElem?_take_of_lt (by omega)]
    obtain ⟨⟨vk, vn, vs, er, u⟩, e1, e2, he⟩ := eval_eq_both big hN2 (x := y) (by rw [big_eq]; omega) hcol
    show Option.bind (eval_Eval_1 big y.op y.vk y.vn y.vs y.tab y.name y.num y.kids y.kind y.at_ row) _ = _
    rw [e1, bind_some']
    unfold law20_EvalConst_r1
    dsimp only
    rw [hw, hk, if_t (by omega), Int.toNat_natCast, List.drop_zero, List.nil_append, cond_t (room_of (by simp only [List.length_nil, List.length_take]; omega)), cond_t (room_of (by simp only [List.length_take]; omega))]
    show Option.bind (eval_Eval_1 big y.op y.vk y.vn y.vs y.tab y.name y.num y.kids y.kind y.at_ (row.take k ++ more)) _ = _
    rw [e2, bind_some', alive20, bind_some']
    dsimp only
    rw [ct, dec_t rfl, dec_t rfl, dec_t rfl, codeT big he, bind_some', bind_some']
    dsimp only
    rw [dec_t rfl, atT big he, bind_some', bind_some']
    simp

theorem EvalConst_all (s : List UInt8) (row more : List Vl) : law20_EvalConst big s row more = some (true, ()) := by
  have hN : 1000 ≤ big := by rw [big_eq]; decide
  unfold law20_EvalConst law20_EvalConst_cps
  obtain ⟨p, hp, hp2⟩ := few_t big hN row
  obtain ⟨q, hq, hq2⟩ := few_t big hN more
  have al : (Option.bind (law20_alive big) fun v => some (v.1, ())) = some (true, ()) := by rw [alive20]; rfl
  have rest : ∀ (x : Ex) (e : Err), (e.isNil = true → hgt x ≤ 4000) → (Option.bind (some (qe x e)) fun v4 => (Option.bind (law20_few big row) fun v5 => (Option.bind (law20_few big more) fun v6 =>
      (bif (decide (1000 < (s.length : Int))) then (Option.bind (law20_alive big) fun v7 => some (v7.1, ())) else (bif (!(Err.isNil v4.2.2.2.2.2.2.2.2.2.2.1)) then (Option.bind (law20_alive big) fun v8 => some (v8.1, ())) else
      (bif (!v5.1) then (Option.bind (law20_alive big) fun v9 => some (v9.1, ())) else (bif (!v6.1) then (Option.bind (law20_alive big) fun v10 => some (v10.1, ())) else
      (law20_EvalConst_j0 big _ (fun v11 _ _ _ _ _ _ _ _ _ _ => some (v11, ())) row more v4.1 v4.2.1 v4.2.2.1 v4.2.2.2.1 v4.2.2.2.2.1 v4.2.2.2.2.2.1 v4.2.2.2.2.2.2.1 v4.2.2.2.2.2.2.2.1 v4.2.2.2.2.2.2.2.2.1 v4.2.2.2.2.2.2.2.2.2.1)))))))) = some (true, ()) := by
    intro x e hx
    rw [bind_some', hp, bind_some', hq, bind_some']
    dsimp only [qe]
    cases decide (1000 < (s.length : Int))
    · rw [cf]
      cases hn : e.isNil
      · rw [cnf]; exact al
      · rw [cnt]
        cases p
        · rw [cnf]; exact al
        · rw [cnt]
          cases q
          · rw [cnf]; exact al
          · rw [cnt]; exact const_j0 (hx hn) (hp2 rfl) (hq2 rfl)
    · rw [ct]; exact al
  rcases expression_t s with ⟨x, hx, hh⟩ | ⟨x, e, hx, he⟩
  · rw [hx]; exact rest x .nil (fun _ => hh)
  · rw [hx]; exact rest x e (fun h => by rw [he] at h; cases h)

theorem EvalConst_pure : EvalConst_Pure := fun x _ => EvalConst_all _ _ _

end Go.Proofs.YtiloinbeojampaaGreatDoor.E
