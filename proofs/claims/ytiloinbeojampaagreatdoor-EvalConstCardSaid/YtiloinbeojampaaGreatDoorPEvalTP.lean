/-
  Plain laws of the pure functions.
  Conditions: those that each statement prints, and no other.
-/
import Derived.Test.YtiloinbeojampaaGreatDoorPTreeTP
import Derived.Test.YtiloinbeojampaaGreatDoorPNumTP
set_option linter.unusedVariables false
set_option linter.unusedSimpArgs false
/-! Evaluation comes to something; it looks at its columns alone. -/
namespace Go.Proofs.YtiloinbeojampaaGreatDoor.E
open Go.Ev
set_option maxRecDepth 100000

abbrev Vl := Int × (Int × ((List UInt8) × Unit))

/-- Both come to the same, with a fault or none. -/
def Both (o1 o2 : Option Qv) : Prop := ∃ r, o1 = some r ∧ o2 = some r ∧ errOk r.2.2.2.1 = true

theorem TE.both {o : Option Qv} (h : TE o) : Both o o := by obtain ⟨r, h1, h2⟩ := h; exact ⟨r, h1, h1, h2⟩
theorem TE.bindQ {o : Option Qv} {f : Qv → Option Qv} (h : TE o) (hf : ∀ k n s e, errOk e = true → TE (f (k, n, s, e, ()))) : TE (o.bind f) := by
  obtain ⟨⟨k, n, s, e, u⟩, rfl, he⟩ := h; exact hf k n s e he
theorem Both.bindQ {o1 o2 : Option Qv} {f g : Qv → Option Qv} (h : Both o1 o2) (hf : ∀ k n s e, errOk e = true → Both (f (k, n, s, e, ())) (g (k, n, s, e, ()))) : Both (o1.bind f) (o2.bind g) := by
  obtain ⟨⟨k, n, s, e, u⟩, rfl, rfl, he⟩ := h; exact hf k n s e he

def kidsF (op : Int) : Int := if op = 1 then 0 else if op = 2 then 0 else if op = 7 then 1 else if op = 16 then 1 else if op = 17 then 1 else if 3 ≤ op then (if op ≤ 15 then 2 else -1) else -1
theorem kids_eq (N : Nat) (op : Int) : eval_kids N op = some (kidsF op, ()) := by
  unfold eval_kids eval_kids_cps kidsF
  simp only [Bool.cond_decide]
  repeat' split
  all_goals rfl

theorem kids_le (op : Int) : kidsF op ≤ 2 := by
  unfold kidsF
  repeat' split
  all_goals decide

theorem codeT (N : Nat) {e : Err} (h : errOk e = true) : fault_Code N e = some (errCode e, ()) := by
  unfold fault_Code fault_Code_cps
  rw [h]; rfl

section
variable (N : Nat)

abbrev K14 := Err → Int → Int → Int → List UInt8 → List UInt8 → List UInt8 → Int → List Ex → Int → Int → Int → Int → List UInt8 → Option Qv

/-- What is handed on comes to something. -/
def KT (k0 : K14) : Prop := ∀ er a b c d e f g h i j k l m, errOk er = true → TE (k0 er a b c d e f g h i j k l m)

theorem wrap_t {er : Err} (h : errOk er = true) (c p : Int) : TF1 (fault_Wrap N er c p) := by
  unfold fault_Wrap fault_Wrap_cps
  exact .cond ⟨_, rfl, h⟩ (.cond ⟨_, rfl, h⟩ ⟨_, rfl, rfl⟩)

theorem r2_t {k0 : Err → Int → Int → Int → List UInt8 → List UInt8 → List UInt8 → Int → List Ex → Int → Int → Int → Int → List UInt8 → Int → Int → List UInt8 → Int → Int → List UInt8 → Int → Int → List UInt8 → Option Qv}
    (h : ∀ er a b c d e f g h i j k l m n o p q r s t u v, errOk er = true → TE (k0 er a b c d e f g h i j k l m n o p q r s t u v)) {er : Err} (he : errOk er = true) (a b c : Int) (d e f : List UInt8) (g : Int) (hh : List Ex) (i j k l : Int) (m : List UInt8) (n o : Int) (p : List UInt8) (q r : Int) (s : List UInt8) (t u : Int) (v : List UInt8) :
    TE (eval_Eval_1_o_r2 N Qv k0 er a b c d e f g hh i j k l m n o p q r s t u v) := by
  unfold eval_Eval_1_o_r2
  rw [codeT N he, bind_some']
  exact .bind1 (wrap_t N he _ _) fun e he => h _ _ _ _ _ _ _ _ _ _ _ _ _ _ _ _ _ _ _ _ _ _ _ he

theorem j3_t (hN : 10000000000 ≤ N) {k0 : Err → Int → Int → Int → List UInt8 → List UInt8 → List UInt8 → Int → List Ex → Int → Int → Int → Int → List UInt8 → Int → Int → List UInt8 → Int → Int → List UInt8 → Int → Int → List UInt8 → Option Qv}
    (h : ∀ er a b c d e f g h i j k l m n o p q r s t u v, errOk er = true → TE (k0 er a b c d e f g h i j k l m n o p q r s t u v)) (bb : Bool) (a b c : Int) (d e f : List UInt8) (g : Int) (hh : List Ex) (i j k l : Int) (m : List UInt8) (n o : Int) (p : List UInt8) (q r : Int) (s : List UInt8) (t u : Int) (v : List UInt8) :
    TE (eval_Eval_1_o_j3 N Qv k0 bb a b c d e f g hh i j k l m n o p q r s t u v) := by
  unfold eval_Eval_1_o_j3
  exact .cond (.bindQ (reckon_t N hN _ _ _ _ _ _ _) fun _ _ _ _ he => h _ _ _ _ _ _ _ _ _ _ _ _ _ _ _ _ _ _ _ _ _ _ _ he) (.bindQ (compare_t N (by omega) _ _ _ _ _ _ _) fun _ _ _ _ he => h _ _ _ _ _ _ _ _ _ _ _ _ _ _ _ _ _ _ _ _ _ _ _ he)

/-- Kids that are evaluated alike. -/
def KidsB (Z : Z_eval_Eval_1) (R1 R2 : List Vl) (ks : List Ex) : Prop := ∀ y ∈ ks, Both (Z.r_eval_Eval_1 y.op y.vk y.vn y.vs y.tab y.name y.num y.kids y.kind y.at_ R1) (Z.r_eval_Eval_1 y.op y.vk y.vn y.vs y.tab y.name y.num y.kids y.kind y.at_ R2)

abbrev KL := List Vl → Int → Int → Int → List UInt8 → List UInt8 → List UInt8 → Int → List Ex → Int → Int → Int → Int → List UInt8 → Int → Int → List UInt8 → Int → Int → List UInt8 → Option Qv
abbrev KE := List Vl → Err → Int → Int → Int → List UInt8 → List UInt8 → List UInt8 → Int → List Ex → Int → Int → Int → Int → List UInt8 → Int → Int → List UInt8 → Int → Int → List UInt8 → Option Qv

theorem l1_both (Z : Z_eval_Eval_1) (R1 R2 : List Vl) (ks : List Ex) (hk : KidsB Z R1 R2 ks) (h2 : ks.length ≤ 2) (k0 : KL) (k1 : KE) (a b c : Int) (d e f : List UInt8) (g i j : Int) (k l : Int) (m : List UInt8)
    (h0 : ∀ n o p q r s, Both (k0 R1 a b c d e f g ks i j k l m n o p q r s) (k0 R2 a b c d e f g ks i j k l m n o p q r s))
    (h1 : ∀ er n o p q r s, errOk er = true → Both (k1 R1 er a b c d e f g ks i j 0 0 [] n o p q r s) (k1 R2 er a b c d e f g ks i j 0 0 [] n o p q r s)) :
    ∀ (fuel t : Nat) (n o : Int) (p : List UInt8) (q r : Int) (s : List UInt8), t ≤ ks.length → ks.length - t < fuel →
      Both (eval_Eval_1_o_l1 N Qv k0 k1 fuel R1 ks (ks.length : Int) (t : Int) a b c d e f g ks i j k l m n o p q r s) (eval_Eval_1_o_l1 N Qv k0 k1 fuel R2 ks (ks.length : Int) (t : Int) a b c d e f g ks i j k l m n o p q r s) := by
  intro fuel
  induction fuel with
  | zero => intro t _ _ _ _ _ _ _ h; exact absurd h (Nat.not_lt_zero _)
  | succ fuel ih =>
    intro t n o p q r s ht hf
    show Both (eval_Eval_1_o_l1B N Qv (eval_Eval_1_o_l1 N Qv k0 k1 fuel) k0 k1 R1 ks (ks.length : Int) (t : Int) a b c d e f g ks i j k l m n o p q r s) (eval_Eval_1_o_l1B N Qv (eval_Eval_1_o_l1 N Qv k0 k1 fuel) k0 k1 R2 ks (ks.length : Int) (t : Int) a b c d e f g ks i j k l m n o p q r s)
    unfold eval_Eval_1_o_l1B
    by_cases hlt : t < ks.length
    · rw [if_t (by omega), if_t (by omega), nth_lt hlt, bind_some', bind_some']
      refine .bindQ (hk _ (List.getElem_mem hlt)) fun vk vn vs er he => ?_
      dsimp only
      cases hn : er.isNil
      · rw [cnf, cnf]; exact h1 _ _ _ _ _ _ _ he
      · rw [cnt, cnt, wrap_succ hlt (by omega)]
        have ht2 : t = 0 ∨ t = 1 := by omega
        rcases ht2 with rfl | rfl
        · rw [if_t (show ((0 : Nat) : Int) = 0 from rfl), if_t (show ((0 : Nat) : Int) = 0 from rfl)]; exact ih 1 _ _ _ _ _ _ hlt (by omega)
        · rw [if_f (show ¬ ((1 : Nat) : Int) = 0 by decide), if_f (show ¬ ((1 : Nat) : Int) = 0 by decide), if_t (show ((1 : Nat) : Int) = 1 from rfl), if_t (show ((1 : Nat) : Int) = 1 from rfl)]; exact ih 2 _ _ _ _ _ _ hlt (by omega)
    · rw [if_f (by omega), if_f (by omega)]
      exact h0 _ _ _ _ _ _

theorem j0_both (hN : 10000000000 ≤ N) (Z : Z_eval_Eval_1) (R1 R2 : List Vl) (ks : List Ex) (hk : KidsB Z R1 R2 ks) (h2 : ks.length ≤ 2) (k0 : K14) (h0 : KT k0) (op b c : Int) (d e f : List UInt8) (num i j : Int) (hc : op = 2 → ∃ v, nth R1 num = some v ∧ nth R2 num = some v) :
    Both (@eval_Eval_1_o_j0 Z N Qv k0 R1 op b c d e f num ks i j 0 0 []) (@eval_Eval_1_o_j0 Z N Qv k0 R2 op b c d e f num ks i j 0 0 []) := by
  unfold eval_Eval_1_o_j0
  refine l1_both N Z R1 R2 ks hk h2 _ _ op b c d e f num i j 0 0 [] ?_ (fun er n o p q r s he => (h0 _ _ _ _ _ _ _ _ _ _ _ _ _ _ he).both) N 0 0 0 [] 0 0 [] (Nat.zero_le _) (by omega)
  intro n o p q r s
  by_cases o1 : op = 1
  · rw [if_t o1, if_t o1]; exact (h0 _ _ _ _ _ _ _ _ _ _ _ _ _ _ rfl).both
  rw [if_f o1, if_f o1]
  by_cases o2 : op = 2
  · rw [if_t o2, if_t o2]
    obtain ⟨v, e1, e2⟩ := hc o2
    rw [e1, e2, bind_some']; exact (h0 _ _ _ _ _ _ _ _ _ _ _ _ _ _ rfl).both
  rw [if_f o2, if_f o2]
  have r2 : ∀ {er : Err} (he : errOk er = true) (a b c : Int) (d e f : List UInt8) (g : Int) (hh : List Ex) (i j k l : Int) (m : List UInt8) (n o : Int) (p : List UInt8) (q r : Int) (s : List UInt8) (t u : Int) (v : List UInt8),
      TE (eval_Eval_1_o_r2 N Qv (fun v81 v82 v83 v84 v85 v86 v87 v88 v89 v90 v91 v92 v93 v94 _ _ _ _ _ _ _ _ _ => k0 v81 v82 v83 v84 v85 v86 v87 v88 v89 v90 v91 v92 v93 v94) er a b c d e f g hh i j k l m n o p q r s t u v) :=
    fun he => r2_t N (fun er a b c d e f g h i j k l m n o p q r s t u v he => h0 _ _ _ _ _ _ _ _ _ _ _ _ _ _ he) he
  refine TE.both ?_
  refine .cond (.bind ?_ fun r => h0 _ _ _ _ _ _ _ _ _ _ _ _ _ _ rfl) (.cond (.bindQ (and_t N _ _ _ _ _ _) fun _ _ _ _ he => r2 he _ _ _ _ _ _ _ _ _ _ _ _ _ _ _ _ _ _ _ _ _ _)
    (.cond (.bindQ (or_t N _ _ _ _ _ _) fun _ _ _ _ he => r2 he _ _ _ _ _ _ _ _ _ _ _ _ _ _ _ _ _ _ _ _ _ _)
    (.cond (.bindQ (not_t N _ _ _) fun _ _ _ _ he => r2 he _ _ _ _ _ _ _ _ _ _ _ _ _ _ _ _ _ _ _ _ _ _)
    (.cond (.bindQ (neg_t N _ _ _) fun _ _ _ _ he => r2 he _ _ _ _ _ _ _ _ _ _ _ _ _ _ _ _ _ _ _ _ _ _)
    (.cond ?_ (.cond ?_ (.cond ?_ ?_)))))))
  · unfold eval_truth eval_truth_cps
    exact .cond (.some _) (.some _)
  all_goals exact j3_t N hN (fun er a b c d e f g h i j k l m n o p q r s t u v he => r2 he _ _ _ _ _ _ _ _ _ _ _ _ _ _ _ _ _ _ _ _ _ _) _ _ _ _ _ _ _ _ _ _ _ _ _ _ _ _ _ _ _ _ _ _ _

/-- A column that both rows have alike, or none has. -/
def ColB (R1 R2 : List Vl) (n : Int) : Prop := n < 0 ∨ (0 ≤ n ∧ n < R1.length ∧ n < R2.length ∧ nth R1 n = nth R2 n)

theorem eval_both (hN : 10000000000 ≤ N) (R1 R2 : List Vl) : ∀ (n : Nat) (x : Ex), hgt x ≤ n → colsX (ColB R1 R2) x →
    Both ((Z_eval_Eval_1_at N n).r_eval_Eval_1 x.op x.vk x.vn x.vs x.tab x.name x.num x.kids x.kind x.at_ R1) ((Z_eval_Eval_1_at N n).r_eval_Eval_1 x.op x.vk x.vn x.vs x.tab x.name x.num x.kids x.kind x.at_ R2)
  | 0, x, h, _ => absurd h (by have := hgt_pos x; omega)
  | n + 1, x, h, hc => by
    obtain ⟨op, vk, vn, vs, tab, name, num, ks, kind, at_⟩ := x
    simp only [hgt] at h
    obtain ⟨hc1, hc2⟩ := hc
    have hk : KidsB (Z_eval_Eval_1_at N n) R1 R2 ks := fun y hy => eval_both hN R1 R2 n y (by have := hgtL_mem hy; omega) (colsL_mem hc2 y hy)
    show Both (@eval_Eval_1_o (Z_eval_Eval_1_at N n) N op vk vn vs tab name num ks kind at_ R1) (@eval_Eval_1_o (Z_eval_Eval_1_at N n) N op vk vn vs tab name num ks kind at_ R2)
    unfold eval_Eval_1_o eval_Eval_1_o_cps
    rw [kids_eq, bind_some', bind_some']
    dsimp only
    have fail : TE (Option.bind (fault_New N 1 at_) fun v => some (0, 0, [], v.1, ())) := .bind1 (new_t N _ _) fun e he => .some _ _ _ he
    by_cases h1 : kidsF op = (ks.length : Int)
    · have h2 : ks.length ≤ 2 := by have := kids_le op; omega
      have kt : KT (fun v16 v17 v18 v19 v20 v21 v22 v23 v24 v25 v26 v27 v28 v29 => some (v27, v28, v29, v16, ())) := fun er a b c d e f g h i j k l m he => .some _ _ _ he
      rw [dec_t h1, cnt, cnt]
      by_cases o2 : op = 2
      · rw [if_t o2, if_t o2]
        rcases hc1 o2 with hn | ⟨n0, n1, n2, n3⟩
        · rw [if_t hn, if_t hn]; exact fail.both
        · rw [if_f (by omega), if_f (by omega), if_f (by omega), if_f (by omega)]
          refine j0_both N hN _ R1 R2 ks hk h2 _ kt op vk vn vs tab name num kind at_ fun _ => ?_
          obtain ⟨i, rfl⟩ := Int.eq_ofNat_of_zero_le n0
          have e1 : nth R1 (i : Int) = some (R1[i]'(by omega)) := nth_lt (by omega)
          exact ⟨_, e1, n3 ▸ e1⟩
      · rw [if_f o2, if_f o2]
        exact j0_both N hN _ R1 R2 ks hk h2 _ kt op vk vn vs tab name num kind at_ fun e => absurd e o2
    · rw [dec_f h1, cnf]; exact fail.both

theorem eval_eq_both (hN : 10000000000 ≤ N) {R1 R2 : List Vl} {x : Ex} (hx : hgt x ≤ N) (hc : colsX (ColB R1 R2) x) :
    Both (eval_Eval_1 N x.op x.vk x.vn x.vs x.tab x.name x.num x.kids x.kind x.at_ R1) (eval_Eval_1 N x.op x.vk x.vn x.vs x.tab x.name x.num x.kids x.kind x.at_ R2) :=
  eval_both N hN R1 R2 (N + 1) x (by omega) hc

end
end Go.Proofs.YtiloinbeojampaaGreatDoor.E
