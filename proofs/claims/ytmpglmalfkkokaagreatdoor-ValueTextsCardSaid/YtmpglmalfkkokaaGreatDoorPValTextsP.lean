/-
  Plain laws of the pure functions.
  Conditions: those that each statement prints, and no other.
-/
import Derived.Test.YtmpglmalfkkokaaGreatDoorPRefReadP
set_option linter.unusedVariables false
set_option linter.unusedSimpArgs false
/-! Texts: as the document has it. -/
namespace Go.Proofs.YtmpglmalfkkokaaGreatDoor.E
open Go.Ev

abbrev GR := Int × Int × Bs × Unit
def gk (a0 a1 : Int) (a2 : Bs) : Option GR := some (a0, (a1, (a2, ())))

/-- The text s is read as K, n, o; if it is a right value's text, that is the value. -/
def Reads (s : Bs) (x : Option GR) : Prop := ∃ K n o, x = some (K, (n, (o, ()))) ∧ I64 n ∧ ∀ k' n' s', I64 n' → rightB k' n' s' = true → s = txt k' n' s' → K = k' ∧ n = n' ∧ o = s'

theorem fig_ne {c x : UInt8} (h : isFig c ∨ c = 45) (hx : 57 < x.toNat ∨ x.toNat < 45) : c ≠ x := by
  rintro rfl
  rcases h with h | h
  · have h1 := h.1; have h2 := h.2; omega
  · subst h
    have : (45 : UInt8).toNat = 45 := rfl
    omega

theorem num_cons {n : Int} {s : Bs} (h : (s = sgn n ++ Lib.decDigits n.natAbs) ∨ (s = sgn n ++ (Lib.decDigits (n.natAbs / 10000) ++ 46 :: dgw 4 n.natAbs))) : ∃ c r, s = c :: r ∧ (isFig c ∨ c = 45) := by
  rcases h with h | h
  · obtain ⟨c, r, h1, h2⟩ := num_head n (Lib.decDigits n.natAbs) (dec_ne _) (dec_fig _) []
    rw [List.append_nil] at h1
    exact ⟨c, r, h.trans h1, h2⟩
  · obtain ⟨c, r, h1, h2⟩ := num_head n (Lib.decDigits (n.natAbs / 10000)) (dec_ne _) (dec_fig _) (46 :: dgw 4 n.natAbs)
    exact ⟨c, r, h.trans h1, h2⟩

theorem dgw_fig : ∀ m u, ∀ c ∈ dgw m u, isFig c
  | 0, _, c, h => by cases h
  | m + 1, u, c, h => by
    rcases List.mem_append.1 h with h | h
    · exact dgw_fig m _ c h
    · rw [List.mem_singleton] at h
      subst h
      exact fig_of (Nat.mod_lt _ (by decide))

theorem digV_split (u : Nat) : digV 0 (Lib.decDigits (u / 10000) ++ dgw 4 u) = u := by
  rw [← pad_split]
  unfold pad
  rw [digV_zeros, digV_dec]

/-- A numeral, read. -/
theorem j4_reads {N : Nat} (hN : 1000000 < N) {s : Bs} (hs : s.length ≤ 1000) (hnot : ∀ k' n' s', rightB k' n' s' = true → s = txt k' n' s' → k' = 2 ∨ k' = 3) : Reads s (ref02_guess_j4 N GR gk s 0 0 []) := by
  have fin : ∀ (neg : Bool) (t : Bs), t.length ≤ 1000 → (∀ n' : Int, I64 n' → (s = sgn n' ++ Lib.decDigits n'.natAbs ∨ s = sgn n' ++ (Lib.decDigits (n'.natAbs / 10000) ++ 46 :: dgw 4 n'.natAbs)) → neg = decide (n' < 0) ∧ s = sgn n' ++ t) → Reads s (ref02_guess_j6 N GR gk neg t 0 0 []) := by
    intro neg t ht hst
    obtain ⟨K, n, h1, h2, h3, h4⟩ := num_ex hN (R := GR) (k0 := gk) (neg := neg) (t := t) ht (a := 0) (b := 0) (c := [])
    refine ⟨K, n, [], h1, h2, fun k' n' s' hn' hr hsx => ?_⟩
    have hk := hnot k' n' s' hr hsx
    rcases txt_shape hr with ⟨e, _⟩ | ⟨e, _⟩ | ⟨e, _⟩ | ⟨e, es, ex⟩ | ⟨e, es, ex⟩ | ⟨e, _⟩ | ⟨e, _⟩
    · omega
    · omega
    · omega
    · rw [ex] at hsx
      obtain ⟨g1, g2⟩ := hst n' hn' (.inl hsx)
      have ht' : t = Lib.decDigits n'.natAbs := List.append_cancel_left (g2.symm.trans hsx)
      obtain ⟨r1, r2⟩ := h3 n' hn' g1 (by rw [ht']; exact dec_ne _) (by rw [ht']; exact dec_fig _) (by rw [ht']; exact digV_dec _)
      exact ⟨r1.trans e.symm, r2, es.symm⟩
    · rw [ex] at hsx
      obtain ⟨g1, g2⟩ := hst n' hn' (.inr hsx)
      have ht' : t = Lib.decDigits (n'.natAbs / 10000) ++ 46 :: dgw 4 n'.natAbs := List.append_cancel_left (g2.symm.trans hsx)
      obtain ⟨r1, r2⟩ := h4 n' _ _ hn' g1 ht' (dec_ne _) (dgw_len 4 _) (fun c hc => (List.mem_append.1 hc).elim (fun h => dec_fig _ c h) (fun h => dgw_fig 4 _ c h)) (digV_split _)
      exact ⟨r1.trans e.symm, r2, es.symm⟩
    · omega
    · omega
  have pos : ∀ {n' : Int}, ¬ n' < 0 → sgn n' = [] := fun h => by unfold sgn; rw [if_neg h]
  have neg : ∀ {n' : Int}, n' < 0 → sgn n' = [45] := fun h => by unfold sgn; rw [if_pos h]
  have figs : ∀ {n' : Int}, ¬ n' < 0 → (s = sgn n' ++ Lib.decDigits n'.natAbs ∨ s = sgn n' ++ (Lib.decDigits (n'.natAbs / 10000) ++ 46 :: dgw 4 n'.natAbs)) → ∃ c r, s = c :: r ∧ isFig c := by
    intro n' h0 h
    rw [pos h0, List.nil_append, List.nil_append] at h
    have hd : ∀ u, ∃ c r, Lib.decDigits u = c :: r ∧ isFig c := fun u => by
      have h1 := dec_ne u
      have h2 := dec_fig u
      cases hu : Lib.decDigits u with
      | nil => exact absurd hu h1
      | cons c r => exact ⟨c, r, rfl, h2 c (by rw [hu]; exact List.mem_cons_self)⟩
    rcases h with h | h
    · obtain ⟨c, r, h1, h2⟩ := hd n'.natAbs
      exact ⟨c, r, h.trans h1, h2⟩
    · obtain ⟨c, r, h1, h2⟩ := hd (n'.natAbs / 10000)
      exact ⟨c, r ++ 46 :: dgw 4 n'.natAbs, by rw [h, h1]; rfl, h2⟩
  unfold ref02_guess_j4 ref02_guess_j5
  cases s with
  | nil =>
    rw [if_f (by simp), cond_f rfl]
    exact fin false [] (by simp) (fun n' _ h => by obtain ⟨c, r, h1, _⟩ := num_cons h; cases h1)
  | cons c r =>
    have n0 : nth (c :: r) 0 = some c := rfl
    rw [if_t (by simp only [List.length_cons]; omega), n0, bind_some']
    by_cases hc : c = 45
    · subst hc
      rw [show decide (((45 : UInt8).toNat : Int) = 45) = true from rfl, cond_t rfl, if_t (by simp; omega), List.take_length]
      refine fin true r (by simp at hs; omega) (fun n' _ h => ?_)
      by_cases h0 : n' < 0
      · exact ⟨by simp [h0], by rw [neg h0]; rfl⟩
      · obtain ⟨c, q, h1, h2⟩ := figs h0 h
        cases h1
        exact absurd h2.1 (by decide)
    · have hne : ¬ ((c.toNat : Int) = 45) := fun e => hc (UInt8.toNat_inj.1 (by show c.toNat = 45; omega))
      rw [show decide ((c.toNat : Int) = 45) = false from decide_eq_false hne, cond_f rfl]
      refine fin false (c :: r) hs (fun n' _ h => ?_)
      by_cases h0 : n' < 0
      · rw [neg h0] at h
        rcases h with h | h <;> (cases h; exact absurd rfl hc)
      · exact ⟨by simp [h0], by rw [pos h0]; rfl⟩

theorem guess_reads {N : Nat} (hN : 1000000 < N) {s : Bs} (hs : s.length ≤ 1000) : Reads s (ref02_guess N s) := by
  have same : ∀ {k n : Int} {o : Bs}, I64 n → rightB k n o = true → s = txt k n o → ∀ k' n' s', I64 n' → rightB k' n' s' = true → s = txt k' n' s' → k = k' ∧ n = n' ∧ o = s' := fun hn hr h k' n' s' hn' hr' h' => txt_inj hn hn' hr hr' (h.symm.trans h')
  have z : I64 0 := ⟨by decide, by decide⟩
  have one : I64 1 := ⟨by decide, by decide⟩
  unfold ref02_guess ref02_guess_cps
  by_cases e1 : s = [110, 117, 108, 108]
  · rw [if_t e1]
    exact ⟨0, 0, [], rfl, z, same z rfl e1⟩
  · rw [if_f e1]
    by_cases e2 : s = [102, 97, 108, 115, 101]
    · rw [if_t e2]
      exact ⟨1, 0, [], rfl, z, same z rfl e2⟩
    · rw [if_f e2]
      by_cases e3 : s = [116, 114, 117, 101]
      · rw [if_t e3]
        exact ⟨1, 1, [], rfl, one, same one rfl e3⟩
      · rw [if_f e3]
        -- what is left
        have left : ∀ k' n' s', rightB k' n' s' = true → s = txt k' n' s' → ((k' = 2 ∨ k' = 3) ∧ ∃ c r, s = c :: r ∧ (isFig c ∨ c = 45)) ∨ (k' = 4 ∧ n' = 0 ∧ s = 39 :: (dbl s' ++ [39])) ∨ (k' = 5 ∧ n' = 0 ∧ s = 120 :: 39 :: (hexs s' ++ [39])) := by
          intro k' n' s' hr h
          rcases txt_shape hr with ⟨_, _, _, e⟩ | ⟨_, _, _, e⟩ | ⟨_, _, _, e⟩ | ⟨e, _, ex⟩ | ⟨e, _, ex⟩ | ⟨e, en, ex⟩ | ⟨e, en, ex⟩
          · exact absurd (h.trans e) e1
          · exact absurd (h.trans e) e2
          · exact absurd (h.trans e) e3
          · exact .inl ⟨.inl e, num_cons (.inl (h.trans ex))⟩
          · exact .inl ⟨.inr e, num_cons (.inr (h.trans ex))⟩
          · exact .inr (.inl ⟨e, en, h.trans ex⟩)
          · exact .inr (.inr ⟨e, en, h.trans ex⟩)
        have tail : ∀ flag : Bool, (flag = true → ∃ r, s = 120 :: r ∧ 2 ≤ s.length) → (flag = false → ∀ r, s = 120 :: 39 :: r → r ≠ [] → False) →
            Reads s (ref02_guess_j0 N GR (fun v5 v6 v7 v8 => ref02_guess_j4 N GR gk v5 v6 v7 v8) (fun v12 v13 v14 => gk v12 v13 v14) s flag 0 0 []) := by
          intro flag f1 f2
          unfold ref02_guess_j0
          cases flag with
          | true =>
            obtain ⟨r, hr, h2⟩ := f1 rfl
            rw [cond_t rfl]
            rcases bytes_ex (N := N) (by omega) (R := GR) (k0 := fun v30 _ _ _ => gk 5 0 v30) (k1 := fun _ v35 v36 v37 => gk v35 v36 v37) hs (a := 0) (b := 0) (c := []) s.length 2 N [] (by omega) (by omega) (by omega) (by simp) with ⟨o, o1, o2⟩ | ⟨o, o1, o2⟩
            · refine ⟨5, 0, o, o1, z, fun k' n' s' _ hr' h => ?_⟩
              rcases left k' n' s' hr' h with ⟨_, c, q, hc, hf⟩ | ⟨_, _, hc⟩ | ⟨e, en, hc⟩
              · rw [hr] at hc; cases hc; exact absurd rfl (fig_ne hf (.inl (by decide)))
              · rw [hr] at hc; cases hc
              · refine ⟨e.symm, en.symm, ?_⟩
                have := o2 s' (by rw [hc]; rfl)
                simpa using this
            · refine ⟨0, 1, [], o1, one, fun k' n' s' _ hr' h => ?_⟩
              rcases left k' n' s' hr' h with ⟨_, c, q, hc, hf⟩ | ⟨_, _, hc⟩ | ⟨e, en, hc⟩
              · rw [hr] at hc; cases hc; exact absurd rfl (fig_ne hf (.inl (by decide)))
              · rw [hr] at hc; cases hc
              · exact absurd (by rw [hc]; rfl) (o2 s')
          | false =>
            rw [cond_f rfl]
            have f2 := f2 rfl
            unfold ref02_guess_j2
            by_cases h1 : 1 < s.length
            · rw [if_t (by omega)]
              cases hsc : s with
              | nil => rw [hsc] at h1; simp at h1
              | cons c q =>
                rw [← hsc]
                have n0 : nth s 0 = some c := by rw [hsc]; rfl
                rw [n0, bind_some']
                by_cases hc : c = 39
                · rw [show decide ((c.toNat : Int) = 39) = true from decide_eq_true (by rw [hc]; rfl), cond_t rfl]
                  obtain ⟨o, o1, o2⟩ := text_ex (N := N) (R := GR) (k0 := fun v68 _ _ _ => gk 4 0 v68) hs (a := 0) (b := 0) (c := []) s.length 1 N [] (by omega) (by omega) (by omega) (by simp)
                  refine ⟨4, 0, o, o1, z, fun k' n' s' _ hr' h => ?_⟩
                  rcases left k' n' s' hr' h with ⟨_, x, y, hx, hf⟩ | ⟨e, en, hx⟩ | ⟨_, _, hx⟩
                  · rw [hsc] at hx; cases hx; exact absurd hc (fig_ne hf (.inr (by decide)))
                  · refine ⟨e.symm, en.symm, ?_⟩
                    have := o2 s' (by rw [hx]; rfl)
                    simpa using this
                  · rw [hsc] at hx; cases hx; exact absurd hc (by decide)
                · have hne : ¬ ((c.toNat : Int) = 39) := fun e => hc (UInt8.toNat_inj.1 (by show c.toNat = 39; omega))
                  rw [show decide ((c.toNat : Int) = 39) = false from decide_eq_false hne, cond_f rfl]
                  refine j4_reads hN hs fun k' n' s' hr' h => ?_
                  rcases left k' n' s' hr' h with ⟨hk, _⟩ | ⟨_, _, hx⟩ | ⟨_, _, hx⟩
                  · exact hk
                  · rw [hsc] at hx; cases hx; exact absurd rfl hc
                  · exact (f2 _ hx (by simp)).elim
            · rw [if_f (by omega), cond_f rfl]
              refine j4_reads hN hs fun k' n' s' hr' h => ?_
              rcases left k' n' s' hr' h with ⟨hk, _⟩ | ⟨_, _, hx⟩ | ⟨_, _, hx⟩
              · exact hk
              · rw [hx] at h1; simp at h1
              · rw [hx] at h1; simp at h1
        by_cases h2 : 2 < s.length
        · rw [if_t (by omega)]
          cases hsc : s with
          | nil => rw [hsc] at h2; simp at h2
          | cons c q =>
            rw [← hsc]
            have n0 : nth s 0 = some c := by rw [hsc]; rfl
            rw [n0, bind_some']
            by_cases hc : c = 120
            · rw [show decide ((c.toNat : Int) = 120) = true from decide_eq_true (by rw [hc]; rfl)]
              exact tail true (fun _ => ⟨q, by rw [hsc, hc], by omega⟩) (fun h => by cases h)
            · have hne : ¬ ((c.toNat : Int) = 120) := fun e => hc (UInt8.toNat_inj.1 (by show c.toNat = 120; omega))
              rw [show decide ((c.toNat : Int) = 120) = false from decide_eq_false hne]
              exact tail false (fun h => by cases h) (fun _ r hr _ => by rw [hsc] at hr; cases hr; exact hc rfl)
        · rw [if_f (by omega)]
          refine tail false (fun h => by cases h) (fun _ r hr h0 => ?_)
          rw [hr] at h2
          have := List.length_pos_iff.2 h0
          simp only [List.length_cons] at h2; omega

theorem ValueTexts_all {k n : Int} {t s : Bs} (hn : I64 n) : law02_ValueTexts big k n t s = some (true, ()) := by
  have hb := big_million
  have ha : law02_alive big = some (true, ()) := alive_eq hb
  generalize big = N at ha hb
  unfold law02_ValueTexts law02_ValueTexts_cps
  by_cases h1 : 500 < t.length
  · rw [if_t (by omega), ha]; rfl
  · rw [if_f (by omega)]
    by_cases h2 : 500 < s.length
    · rw [if_t (by omega), ha]; rfl
    · rw [if_f (by omega)]
      unfold law02_ValueTexts_j0
      rw [read_eq hb (s := s) (by omega), bind_some', ha, text_eq (by omega) hn, rtext_eq hb hn]
      -- what the document reads
      have rread : ref02_Read N s = some (if okR s then ((gss s).1, ((gss s).2.1, ((gss s).2.2, (true, ())))) else (0, (0, ([], (false, ()))))) := by
        unfold ref02_Read ref02_Read_cps
        by_cases hl : 403 < s.length
        · have hno : okR s = false := by
            cases ho : okR s with
            | false => rfl
            | true =>
              unfold okR at ho
              rw [Bool.and_eq_true] at ho
              have := txt_len2 (gss_in s) ho.1
              rw [of_decide_eq_true ho.2] at this
              omega
          rw [if_t (by omega), hno]; rfl
        · rw [if_f (by omega)]
          obtain ⟨K, m, o, g1, g2, g3⟩ := guess_reads hb (s := s) (by omega)
          rw [g1, bind_some']
          dsimp only
          rw [rright_eq, bind_some']
          dsimp only
          cases hr : rightB K m o with
          | false =>
            rw [cond_t (show (!false) = true from rfl)]
            have hno : okR s = false := by
              cases ho : okR s with
              | false => rfl
              | true =>
                unfold okR at ho
                rw [Bool.and_eq_true] at ho
                obtain ⟨rfl, rfl, rfl⟩ := g3 _ _ _ (gss_in s) ho.1 (of_decide_eq_true ho.2).symm
                rw [hr] at ho; cases ho.1
            rw [hno]; rfl
          | true =>
            rw [cond_f (show (!true) = false from rfl), rtext_eq hb g2, bind_some']
            dsimp only
            by_cases hx : txt K m o = s
            · have hg : gss s = (K, (m, o)) := by rw [← hx]; exact gss_txt g2 hr
              have hyes : okR s = true := by
                unfold okR
                rw [hg]
                simp [hr, hx]
              rw [cond_f (by simp [hx]), hyes, hg]; rfl
            · have hno : okR s = false := by
                cases ho : okR s with
                | false => rfl
                | true =>
                  unfold okR at ho
                  rw [Bool.and_eq_true] at ho
                  obtain ⟨rfl, rfl, rfl⟩ := g3 _ _ _ (gss_in s) ho.1 (of_decide_eq_true ho.2).symm
                  exact absurd (of_decide_eq_true ho.2) hx
              rw [cond_t (by simp [hx]), hno]; rfl
      rw [rread, bind_some']
      cases okR s with
      | true => simp [nil_isNil]
      | false =>
        have hc : fault_Code N (Err.fault 23 0 Err.nil) = some (23, ()) := rfl
        have hat : fault_At N (Err.fault 23 0 Err.nil) = some (0, ()) := rfl
        simp [hc, hat, Err.isNil]

theorem ValueTexts_pure : ValueTexts_Pure := fun x h => ValueTexts_all h.1.2.1

end Go.Proofs.YtmpglmalfkkokaaGreatDoor.E
