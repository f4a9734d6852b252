/-
  Plain laws of the pure functions.
  Conditions: those that each statement prints, and no other.
-/
import Derived.Test.YtmpglmalfkkokaaGreatDoorPValReadP
set_option linter.unusedVariables false
set_option linter.unusedSimpArgs false
/-! There and back. -/
namespace Go.Proofs.YtmpglmalfkkokaaGreatDoor.E
open Go.Ev

theorem nil_isNil : Err.nil.isNil = true := rfl

theorem gss_num {l : Bs} {c : UInt8} {r : Bs} (hl : l = c :: r) (hc : isFig c ∨ c = 45) : gss l = numG l := by
  have hcc : 45 ≤ c.toNat ∧ c.toNat ≤ 57 := by
    rcases hc with h | h
    · exact ⟨Nat.le_trans (by decide) h.1, h.2⟩
    · subst h; exact ⟨by decide, by decide⟩
  have ne : ∀ {x : UInt8} {y : Bs}, 57 < x.toNat ∨ x.toNat < 45 → l ≠ x :: y := by
    intro x y hx e
    rw [hl] at e; cases e; omega
  unfold gss
  rw [if_neg (ne (by decide)), if_neg (ne (by decide)), if_neg (ne (by decide)), if_neg (fun h => by obtain ⟨t, ht⟩ := h.1; exact ne (by decide) ht.symm), if_neg (fun h => by obtain ⟨t, ht⟩ := h.1; exact ne (by decide) ht.symm)]

/-- A numeral begins with a figure or its sign. -/
theorem num_head (n : Int) (l : Bs) (hl : l ≠ []) (hf : ∀ c ∈ l, isFig c) (t : Bs) : ∃ c r, sgn n ++ (l ++ t) = c :: r ∧ (isFig c ∨ c = 45) := by
  unfold sgn
  split
  · exact ⟨45, l ++ t, rfl, .inr rfl⟩
  · cases l with
    | nil => exact absurd rfl hl
    | cons c r => exact ⟨c, r ++ t, rfl, .inl (hf c (by simp))⟩

theorem pad_fig (n : Nat) : ∀ c ∈ pad (Lib.decDigits n), isFig c := by
  intro c hc
  unfold pad at hc
  rcases List.mem_append.1 hc with h | h
  · obtain ⟨_, rfl⟩ := List.mem_replicate.1 h; exact ⟨by decide, by decide⟩
  · exact dec_fig _ c h

theorem gss_txt {k n : Int} {s : Bs} (hn : I64 n) (hr : rightB k n s = true) : gss (txt k n s) = (k, (n, s)) := by
  have hr0 := hr
  unfold rightB at hr
  unfold txt
  rw [if_neg (by simp [hr0])]
  by_cases h1 : k = 1
  · rw [if_pos h1] at hr
    obtain ⟨h2, h3⟩ := of_decide_eq_true hr
    subst h1; subst h3
    rw [if_neg (by decide), if_pos rfl]
    rcases h2 with rfl | rfl
    · rw [if_pos rfl]; rfl
    · rw [if_neg (by decide)]; rfl
  rw [if_neg h1] at hr
  by_cases h0 : k = 0
  · rw [if_pos h0] at hr
    obtain ⟨h2, h3⟩ := of_decide_eq_true hr
    subst h0; subst h2; subst h3
    rw [if_pos rfl]; rfl
  rw [if_neg h0] at hr
  rw [if_neg h0, if_neg h1]
  by_cases h2 : k = 2
  · rw [if_pos (.inl h2)] at hr
    obtain rfl := of_decide_eq_true hr
    rw [if_pos h2]
    subst h2
    obtain ⟨c, r, e, hc⟩ := num_head n _ (dec_ne n.natAbs) (dec_fig n.natAbs) []
    rw [List.append_nil, ← itoa_eq] at e
    rw [gss_num e hc]
    have hno : ¬ (Lib.itoa n)[(Lib.itoa n).length - 5]? = some 46 := by
      intro h
      have hm := List.mem_of_getElem? h
      rw [itoa_eq] at hm
      rcases List.mem_append.1 hm with h | h
      · unfold sgn at h; split at h <;> simp at h
      · exact absurd (dec_fig _ _ h).1 (by decide)
    unfold numG
    obtain ⟨p1, p2⟩ := parseV_ok (parse_itoa hn)
    dsimp only
    rw [if_neg (fun h => hno h.2), p1, p2, if_pos nil_isNil]
  rw [if_neg h2]
  by_cases h3 : k = 3
  · rw [if_pos (.inr h3)] at hr
    obtain rfl := of_decide_eq_true hr
    rw [if_pos h3]
    subst h3
    have hp := pad_len (Lib.decDigits n.natAbs)
    have hpf := pad_fig n.natAbs
    have hpar := parse_signed hn (5 - (Lib.decDigits n.natAbs).length)
    have hpe : List.replicate (5 - (Lib.decDigits n.natAbs).length) 48 ++ Lib.decDigits n.natAbs = pad (Lib.decDigits n.natAbs) := rfl
    rw [hpe] at hpar
    unfold decT dotted
    generalize pad (Lib.decDigits n.natAbs) = p at *
    obtain ⟨c, r, e, hc⟩ := num_head n (p.take (p.length - 4)) (by intro e; have := congrArg List.length e; simp at this; omega) (fun c hc => hpf c (List.mem_of_mem_take hc)) (46 :: p.drop (p.length - 4))
    rw [gss_num e hc]
    clear e hc
    have hlen : (sgn n ++ (p.take (p.length - 4) ++ 46 :: p.drop (p.length - 4))).length = (sgn n).length + p.length + 1 := by simp; omega
    have h46 : (sgn n ++ (p.take (p.length - 4) ++ 46 :: p.drop (p.length - 4)))[(sgn n ++ (p.take (p.length - 4) ++ 46 :: p.drop (p.length - 4))).length - 5]? = some 46 := by
      rw [hlen, List.getElem?_append_right (by omega), List.getElem?_append_right (by simp; omega)]
      have : (sgn n).length + p.length + 1 - 5 - (sgn n).length - (p.take (p.length - 4)).length = 0 := by simp; omega
      rw [this]; rfl
    unfold numG
    obtain ⟨p1, p2⟩ := parseV_ok hpar
    dsimp only
    rw [if_pos ⟨by omega, h46⟩]
    have e1 : (sgn n ++ (p.take (p.length - 4) ++ 46 :: p.drop (p.length - 4))).take ((sgn n ++ (p.take (p.length - 4) ++ 46 :: p.drop (p.length - 4))).length - 5) = sgn n ++ p.take (p.length - 4) := by
      rw [hlen, ← List.append_assoc]
      exact List.take_left' (by simp; omega)
    have e2 : (sgn n ++ (p.take (p.length - 4) ++ 46 :: p.drop (p.length - 4))).drop ((sgn n ++ (p.take (p.length - 4) ++ 46 :: p.drop (p.length - 4))).length - 4) = p.drop (p.length - 4) := by
      have e3 : sgn n ++ (p.take (p.length - 4) ++ 46 :: p.drop (p.length - 4)) = (sgn n ++ p.take (p.length - 4) ++ [46]) ++ p.drop (p.length - 4) := by simp
      rw [hlen, e3]
      exact List.drop_left' (by simp; omega)
    rw [e1, e2, List.append_assoc, List.take_append_drop, p1, p2, if_pos nil_isNil]
  rw [if_neg h3]
  rw [if_neg (by omega)] at hr
  have key : ∀ (a : Bs) (l : Bs), (a ++ (l ++ [39])).take ((a ++ (l ++ [39])).length - 1) = a ++ l := by
    intro a l
    rw [← List.append_assoc]
    exact List.take_left' (by simp)
  split at hr
  · rename_i h45
    obtain ⟨rfl, hl⟩ := of_decide_eq_true hr
    by_cases h5 : k = 5
    · subst h5
      rw [if_pos rfl]
      have e1 := key [120, 39] (hexs s)
      have e2 : (120 :: 39 :: (hexs s ++ [39]) : Bs) = [120, 39] ++ (hexs s ++ [39]) := rfl
      have p1 : ([120, 39] : Bs) <+: [120, 39] ++ (hexs s ++ [39]) := List.prefix_append _ _
      have p2 : ([39] : Bs) <:+ ([120, 39] ++ (hexs s ++ [39])).drop 2 := ⟨hexs s, rfl⟩
      have n1 : ∀ x : UInt8, ∀ y : Bs, x ≠ 120 → [120, 39] ++ (hexs s ++ [39]) ≠ x :: y := by intro x y hx e; cases e; exact hx rfl
      rw [e2]
      generalize [120, 39] ++ (hexs s ++ [39]) = l at *
      unfold gss
      rw [if_neg (n1 _ _ (by decide)), if_neg (n1 _ _ (by decide)), if_neg (n1 _ _ (by decide)), if_pos ⟨p1, p2⟩, e1]
      have e3 : List.drop 2 ([120, 39] ++ hexs s) = hexs s := rfl
      rw [e3, unhexs_hexs]
    · have h4 : k = 4 := by omega
      subst h4
      rw [if_neg (by decide)]
      have e1 := key [39] (dbl s)
      have e2 : (39 :: (dbl s ++ [39]) : Bs) = [39] ++ (dbl s ++ [39]) := rfl
      have p1 : ([39] : Bs) <+: [39] ++ (dbl s ++ [39]) := List.prefix_append _ _
      have p2 : ([39] : Bs) <:+ ([39] ++ (dbl s ++ [39])).drop 1 := ⟨dbl s, rfl⟩
      have n1 : ∀ x : UInt8, ∀ y : Bs, x ≠ 39 → [39] ++ (dbl s ++ [39]) ≠ x :: y := by intro x y hx e; cases e; exact hx rfl
      rw [e2]
      generalize [39] ++ (dbl s ++ [39]) = l at *
      unfold gss
      rw [if_neg (n1 _ _ (by decide)), if_neg (n1 _ _ (by decide)), if_neg (n1 _ _ (by decide)), if_neg (fun h => by obtain ⟨t, ht⟩ := h.1; exact n1 _ _ (by decide) ht.symm), if_pos ⟨p1, p2⟩, e1]
      have e3 : List.drop 1 ([39] ++ dbl s) = dbl s := rfl
      rw [e3, rep_undbl]
  · cases hr

/-- Two right values with one text are one. -/
theorem txt_inj {k n k' n' : Int} {s s' : Bs} (hn : I64 n) (hn' : I64 n') (hr : rightB k n s = true) (hr' : rightB k' n' s' = true) (h : txt k n s = txt k' n' s') : k = k' ∧ n = n' ∧ s = s' := by
  have e := gss_txt hn hr
  rw [h, gss_txt hn' hr'] at e
  cases e; exact ⟨rfl, rfl, rfl⟩

theorem gss_in (s : Bs) : I64 (gss s).2.1 := by
  have hz : I64 0 := ⟨by decide, by decide⟩
  have h1 : I64 1 := ⟨by decide, by decide⟩
  have hp : ∀ t, I64 (parseV t) := fun t => parseV_in t
  have hnum : I64 (numG s).2.1 := by
    unfold numG; dsimp only
    split <;> split <;> first | exact hp _ | exact h1
  unfold gss
  split; exact hz
  split; exact h1
  split; exact hz
  split; exact hz
  split; exact hz
  exact hnum

/-- Is a text a value's? -/
def okR (s : Bs) : Bool := rightB (gss s).1 (gss s).2.1 (gss s).2.2 && decide (txt (gss s).1 (gss s).2.1 (gss s).2.2 = s)

theorem new_eq (N : Nat) {c : Int} (p : Int) (hc : c ≠ 0) : fault_New N c p = some (Err.fault c p Err.nil, ()) := by
  unfold fault_New fault_New_cps; rw [if_f hc]

theorem read_eq {N : Nat} (hN : 1000000 < N) {s : Bs} (hl : s.length ≤ 1000000) : value_Read N s = some (if okR s then ((gss s).1, ((gss s).2.1, ((gss s).2.2, (Err.nil, ())))) else (0, (0, ([], (Err.fault 23 0 Err.nil, ()))))) := by
  unfold value_Read value_Read_cps okR
  rw [guess_eq hN hl, bind_some']
  dsimp only
  rw [right_eq, bind_some']
  cases hr : rightB (gss s).1 (gss s).2.1 (gss s).2.2 with
  | false => rw [new_eq N 0 (by decide)]; rfl
  | true =>
    dsimp only
    rw [cond_f (show (!true) = false from rfl), text_eq (by omega) (gss_in s), bind_some', new_eq N 0 (by decide)]
    by_cases h : txt (gss s).1 (gss s).2.1 (gss s).2.2 = s
    · simp [h]
    · simp [h]

theorem read_txt {N : Nat} (hN : 1000000 < N) {k n : Int} {s : Bs} (hn : I64 n) (hr : rightB k n s = true) : value_Read N (txt k n s) = some (k, (n, (s, (Err.nil, ())))) := by
  have hl := txt_len (k := k) (s := s) hn
  rw [read_eq hN (by omega)]
  unfold okR
  rw [gss_txt hn hr]
  simp [hr]

theorem alive_eq {N : Nat} (hN : 1000000 < N) : law02_alive N = some (true, ()) := by
  have e : ([45, 49, 46, 50, 53, 48, 48] : Bs) = txt 3 (-12500) [] := by
    have : rightB 3 (-12500) [] = true := rfl
    unfold txt
    rw [if_neg (by rw [this]; decide), if_neg (by decide), if_neg (by decide), if_neg (by decide), if_pos rfl]
    unfold decT
    have : Lib.decDigits (-12500 : Int).natAbs = [49, 50, 53, 48, 48] := by
      show Lib.decDigits 12500 = _
      rw [dig_ge (by decide), dig_ge (by decide), dig_ge (by decide), dig_ge (by decide), dig_lt (by decide)]
      rfl
    rw [this]; rfl
  unfold law02_alive law02_alive_cps
  rw [e, read_txt hN ⟨by decide, by decide⟩ rfl, bind_some', text_eq (by omega) ⟨by decide, by decide⟩]
  rfl

theorem big_million : 1000000 < big := big_gt _ (by decide)

end Go.Proofs.YtmpglmalfkkokaaGreatDoor.E
