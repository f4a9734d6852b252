/-
  Plain laws of the pure functions.
  Conditions: those that each statement prints, and no other.
-/
import Derived.Test.YtbikfekdakigiaaGreatDoorPMLexLP
set_option linter.unusedVariables false
set_option linter.unusedSimpArgs false
namespace Go.Proofs.YtbikfekdakigiaaGreatDoor.E.L
open Go.Ev
def Sep (c : UInt8) : Prop := c = 32 ∨ c = 9 ∨ c = 10 ∨ c = 13
instance (c : UInt8) : Decidable (Sep c) := by unfold Sep; infer_instance
def upB (c : UInt8) : UInt8 := if 97 ≤ c.toNat ∧ c.toNat ≤ 122 then UInt8.ofNat (Int.toNat (IntKind.wrap .u8 ((c.toNat : Int) - 32))) else c
def Sepx (c : UInt8) : Prop := Sep c ∨ (65 ≤ c.toNat ∧ c.toNat ≤ 90)
instance (c : UInt8) : Decidable (Sepx c) := by unfold Sepx; infer_instance
theorem byteV (c : UInt8) : UInt8.ofNat c.toNat = c := by simp
theorem up_ne {c x : UInt8} (hx : ¬ Sepx x) (h : upB c = x) : c = x := by
 have key : ∀ k : Fin 256, Sepx (upB (UInt8.ofNat k.val)) ∨ upB (UInt8.ofNat k.val) = UInt8.ofNat k.val := by decide +kernel
 have := key ⟨c.toNat, c.toNat_lt⟩
 rw [byteV, h] at this
 exact (this.resolve_left hx).symm
theorem up_part (c : UInt8) : isPartB (upB c) = isPartB c := by
 have key : ∀ k : Fin 256, isPartB (upB (UInt8.ofNat k.val)) = isPartB (UInt8.ofNat k.val) := by decide +kernel
 have := key ⟨c.toNat, c.toNat_lt⟩
 rwa [byteV] at this
theorem up_fig (c : UInt8) : isFigB (upB c) = isFigB c := by
 have key : ∀ k : Fin 256, isFigB (upB (UInt8.ofNat k.val)) = isFigB (UInt8.ofNat k.val) := by decide +kernel
 have := key ⟨c.toNat, c.toNat_lt⟩
 rwa [byteV] at this
def Fits (q q' : Bs) : Prop := q'.head? = q.head? ∨ (∃ c, q'.head? = some c ∧ Sep c) ∨ ∃ d, q.head? = some d ∧ q'.head? = some (upB d)
theorem pre1 {x : UInt8} : ∀ {l : Bs}, [x] <+: l ↔ l.head? = some x
 | [] => by simp
 | y :: l => by simp [List.cons_prefix_cons, eq_comm]
theorem Fits.head {q q' : Bs} (h : Fits q q') {x : UInt8} (hx : ¬ Sepx x) (hq : q'.head? = some x) : q.head? = some x := by
 rcases h with h | ⟨c, h, hc⟩ | ⟨d, h, hd⟩
 · rw [← h]; exact hq
 · rw [h] at hq; injection hq with e; exact absurd (.inl (e ▸ hc)) hx
 · rw [hd] at hq; injection hq with e; rw [h, up_ne hx e]
theorem Fits.pre {q q' : Bs} (h : Fits q q') {x : UInt8} (hx : ¬ Sepx x) (hq : ¬ [x] <+: q) : ¬ [x] <+: q' := fun e => hq (pre1.2 (h.head hx (pre1.1 e)))
theorem spn_cut {p : UInt8 → Bool} (h32 : (∀ c, Sep c → p c = false) ∧ ∀ c, p (upB c) = p c) {q q' : Bs} (h : Fits q q') : ∀ {a : Bs}, spn p (a ++ q) = a.length → spn p (a ++ q') = a.length
 | [], hs => by
  cases q' with
  | nil => rfl
  | cons d r' =>
   have hd : p d = false := by
    rcases h with h | ⟨c, h, hc⟩ | ⟨e, h, hd⟩
    · cases q with
      | nil => cases h
      | cons e r =>
       injection h with h
       subst h
       simp only [List.nil_append] at hs
       rw [spn_cons] at hs
       cases hp : p d with
       | false => rfl
       | true => rw [if_pos hp] at hs; simp at hs
    · injection h with h; rw [h]; exact h32.1 c hc
    · injection hd with hd
      cases q with
      | nil => cases h
      | cons e' r =>
       injection h with h
       subst h
       simp only [List.nil_append] at hs
       rw [spn_cons] at hs
       rw [hd, h32.2]
       cases hp : p e' with
       | false => rfl
       | true => rw [if_pos hp] at hs; simp at hs
   simp only [List.nil_append]
   rw [spn_cons, if_neg (by simp [hd])]; rfl
 | c :: a, hs => by
  simp only [List.cons_append] at *
  rw [spn_cons] at *
  cases hp : p c with
  | false => rw [if_neg (by simp [hp])] at hs; simp at hs
  | true =>
   rw [if_pos hp] at hs
   rw [if_pos rfl, spn_cut h32 h (by simpa using hs)]; rfl
theorem spn_all {p : UInt8 → Bool} {q : Bs} : ∀ {a : Bs}, spn p (a ++ q) = a.length → ∀ x ∈ a, p x = true
 | [], _, x, hx => by simp at hx
 | c :: a, hs, x, hx => by
  simp only [List.cons_append] at hs
  rw [spn_cons] at hs
  cases hp : p c with
  | false => rw [if_neg (by simp [hp])] at hs; simp at hs
  | true =>
   rw [if_pos hp] at hs
   rcases List.mem_cons.1 hx with rfl | hx
   · exact hp
   · exact spn_all (by simpa using hs) x hx
theorem spn_of {p : UInt8 → Bool} {q : Bs} (hq : ∀ c, q.head? = some c → p c = false) : ∀ {a : Bs}, (∀ x ∈ a, p x = true) → spn p (a ++ q) = a.length
 | [], _ => by
  cases q with
  | nil => rfl
  | cons d r => simp only [List.nil_append]; rw [spn_cons, if_neg (by simp [hq d rfl])]; rfl
 | c :: a, h => by
  simp only [List.cons_append]
  rw [spn_cons, if_pos (h c (by simp)), spn_of hq (fun x hx => h x (by simp [hx]))]; rfl
theorem qd_cut {q q' : Bs} (h : Fits q q') : ∀ {a : Bs} {o : Bs}, qd (a ++ q) = some (o, a.length) → qd (a ++ q') = some (o, a.length)
 | [], o, hs => by
  have := (qd_le _ _ _ hs).2
  simp at this
 | [c], o, hs => by
  by_cases hc : c = 39
  · subst hc
    cases q with
    | nil =>
     have e : o = [] := by
      unfold qd at hs; simp at hs; exact hs
     subst e
     cases q' with
     | nil => rfl
     | cons d r =>
      rcases h with h | ⟨c, h, hc⟩ | ⟨e, h, _⟩
      · cases h
      · injection h with h; subst h
        have : d ≠ 39 := fun e => absurd (e ▸ hc) (by decide)
        simp [qd, this]
      · cases h
    | cons d r =>
     by_cases hd : d = 39
     · subst hd
       simp only [List.cons_append, List.nil_append] at hs
       unfold qd at hs
       simp at hs
     · have e : o = [] := by
        simp only [List.cons_append, List.nil_append] at hs
        unfold qd at hs
        simp [hd] at hs; exact hs
       subst e
       cases q' with
       | nil => rfl
       | cons d' r' =>
        have hd' : d' ≠ 39 := by
         intro e
         have := h.head (x := 39) (by decide) (by rw [e]; rfl)
         injection this with this; exact hd this
        simp only [List.cons_append, List.nil_append]
        unfold qd
        simp [hd']
  · cases q with
    | nil => unfold qd at hs; simp [hc] at hs
    | cons d r =>
     simp only [List.cons_append, List.nil_append] at hs
     unfold qd at hs
     rw [if_neg hc] at hs
     obtain ⟨⟨o', n'⟩, h1, h2⟩ := Option.map_eq_some_iff.1 hs
     have := (qd_le _ _ _ h1).2
     injection h2 with _ h2
     simp at h2; omega
 | c :: d :: a, o, hs => by
  simp only [List.cons_append] at *
  unfold qd at hs ⊢
  by_cases hc : c = 39
  · rw [if_pos hc] at *
    by_cases hd : d = 39
    · rw [if_pos hd] at *
      obtain ⟨⟨o', n'⟩, h1, h2⟩ := Option.map_eq_some_iff.1 hs
      injection h2 with h2 h3
      simp only [List.length_cons] at h3
      have h4 : n' = a.length := by omega
      subst h4
      rw [qd_cut h h1]
      simp [h2]
    · rw [if_neg hd] at hs
      injection hs with hs
      injection hs with _ hs
      simp at hs
  · rw [if_neg hc] at *
    obtain ⟨⟨o', n'⟩, h1, h2⟩ := Option.map_eq_some_iff.1 hs
    injection h2 with h2 h3
    simp only [List.length_cons] at h3
    have h4 : n' = (d :: a).length := by simp only [List.length_cons]; omega
    subst h4
    have := qd_cut h (a := d :: a) h1
    simp only [List.cons_append] at this
    rw [this]
    simp [h2]
theorem part32 : (∀ c, Sep c → isPartB c = false) ∧ ∀ c, isPartB (upB c) = isPartB c := ⟨by rintro c (rfl | rfl | rfl | rfl) <;> decide, up_part⟩
theorem fig32 : (∀ c, Sep c → isFigB c = false) ∧ ∀ c, isFigB (upB c) = isFigB c := ⟨by rintro c (rfl | rfl | rfl | rfl) <;> decide, up_fig⟩
theorem spn_zero {p : UInt8 → Bool} {q : Bs} (h : spn p q = 0) : spn p ([] ++ q) = ([] : Bs).length := h
theorem barred_cut {q q' : Bs} (h : Fits q q') (hb : barred q = false) : barred q' = false := by
 unfold barred at *
 simp only [Bool.or_eq_false_iff, decide_eq_false_iff_not] at *
 refine ⟨h.pre (by decide) hb.1, ?_⟩
 have := spn_cut part32 h (a := []) (spn_zero (by omega))
 simp only [List.nil_append, List.length_nil] at this
 omega
theorem take_app {a q : Bs} : (a ++ q).take a.length = a := by simp
theorem drop_app {a q : Bs} : (a ++ q).drop a.length = q := by simp
theorem num_cut {a q q' : Bs} {z : Tk} (h : Fits q q') (hn : numP (a ++ q) = some z) (hl : z.2.1.length = a.length) : numP (a ++ q') = some z := by
 unfold numP at hn
 dsimp only at hn
 have hsl := spn_le isFigB (a ++ q)
 split at hn
 · rename_i hd
   obtain ⟨u, hu⟩ := hd
   split at hn
   · cases hn
   · rename_i hk
     obtain ⟨hz, hb, he⟩ := numEnd_some hn
     generalize hnn : spn isFigB (a ++ q) = n at *
     have hs : a ++ q = (a ++ q).take n ++ ([46] ++ u) := by rw [hu, List.take_append_drop]
     have hdu : ((a ++ q).drop n).drop 1 = u := by rw [← hu]; rfl
     rw [hdu] at hk hz hb he hn
     have hku := spn_le isFigB u
     generalize hkk : spn isFigB u = k at *
     have hlen : a.length = n + 1 + k := by
      rw [← hl, hz]
      have := congrArg List.length hs
      simp only [List.length_append, List.length_take, List.length_cons, List.length_nil] at this ⊢
      omega
     have hbt : ((a ++ q).take n).length = n := by rw [List.length_take]; omega
     generalize hbb : (a ++ q).take n = b at *
     have hsa : a = b ++ ([46] ++ u.take k) ∧ q = u.drop k := by
      have e1 : a ++ q = (b ++ ([46] ++ u.take k)) ++ u.drop k := by
       rw [hs]; simp
      exact List.append_inj e1 (by simp; omega)
     obtain ⟨ha, hq⟩ := hsa
     have hd1 : ((a ++ q).drop n).drop (1 + k) = q := by rw [List.drop_drop, show n + (1 + k) = a.length by omega, drop_app]
     rw [hd1] at hb
     have hs' : a ++ q' = b ++ ([46] ++ (u.take k ++ q')) := by rw [ha]; simp
     have hn1 : spn isFigB (a ++ q') = n := by
      rw [hs', ← hbt]
      refine spn_cut fig32 (q := [46] ++ u) (q' := [46] ++ (u.take k ++ q')) (a := b) (.inl rfl) ?_
      rw [hbt, ← hs]; exact hnn
     have hut : (u.take k).length = k := by rw [List.length_take]; omega
     have hk1 : spn isFigB (u.take k ++ q') = k := by
      refine (spn_cut fig32 h (a := u.take k) ?_).trans hut
      rw [hq, List.take_append_drop, hkk, hut]
     unfold numP
     dsimp only
     have hr : (a ++ q').drop n = [46] ++ (u.take k ++ q') := by rw [hs', ← hbt, drop_app]
     have ht : (a ++ q').take n = b := by rw [hs', ← hbt, take_app]
     rw [hn1, hr, ht, if_pos (List.prefix_append _ _)]
     have e2 : ([46] ++ (u.take k ++ q')).drop 1 = u.take k ++ q' := rfl
     rw [e2, hk1, if_neg hk]
     have e3 : (u.take k ++ q').take k = u.take k := by
      conv => lhs; arg 1; rw [← hut]
      exact take_app
     have e4 : ([46] ++ (u.take k ++ q')).drop (1 + k) = q' := by
      rw [← List.append_assoc]
      have : 1 + k = ([46] ++ u.take k).length := by simp; omega
      rw [this, drop_app]
     rw [e3, e4]
     unfold numEnd
     rw [if_neg (by rw [barred_cut h hb]; simp), if_pos he, hz]
     have e5 : (a ++ q').take (n + 1 + k) = (a ++ q).take (n + 1 + k) := by rw [← hlen, take_app, take_app]
     rw [e5]
 · rename_i hd
   obtain ⟨hz, hb, he⟩ := numEnd_some hn
   generalize hnn : spn isFigB (a ++ q) = n at *
   have hlen : a.length = n := by
    rw [← hl, hz]
    simp only [List.length_take]; omega
   subst hlen
   rw [drop_app] at hd hb
   rw [take_app] at he hz
   unfold numP
   dsimp only
   rw [spn_cut fig32 h hnn, drop_app, take_app, if_neg (h.pre (by decide) hd)]
   unfold numEnd
   rw [if_neg (by rw [barred_cut h hb]; simp), if_pos he, take_app, hz]
theorem word_of {c : UInt8} {a q : Bs} (hc : ofB c = 2) (ha : ∀ x ∈ c :: a, isPartB x = true) (hq : ∀ x, q.head? = some x → isPartB x = false) (hx : ¬ ([39] <+: a ++ q ∧ (c = 120 ∨ c = 88))) :
 nextP (c :: (a ++ q)) = some (1, (Lib.toLowerA (c :: a), (0, (0, [])))) := by
 unfold nextP
 dsimp only
 have := spn_of hq ha
 have e : c :: (a ++ q) = (c :: a) ++ q := rfl
 rw [if_pos hc, if_neg hx, e, this, take_app]
theorem next_cut {a q q' : Bs} {z : Tk} (h : Fits q q') (hn : nextP (a ++ q) = some z) (hl : z.2.1.length = a.length) : nextP (a ++ q') = some z := by
 cases a with
 | nil =>
  have := (next_len hn).1
  rw [hl] at this; simp at this
 | cons c a =>
  simp only [List.cons_append] at *
  unfold nextP at hn ⊢
  dsimp only at hn ⊢
  by_cases h2 : ofB c = 2
  · rw [if_pos h2] at *
    by_cases hx : [39] <+: a ++ q ∧ (c = 120 ∨ c = 88)
    · rw [if_pos hx] at hn
      unfold rawP at hn
      split at hn
      · cases hn
      · rename_i o n hq
        split at hn
        · cases hn
        · rename_i ho
          obtain ⟨v, hv, rfl⟩ := Option.map_eq_some_iff.1 hn
          have hqn := (qd_le _ _ _ hq).1
          have hlen : a.length + 1 = n + 2 := by
           rw [← List.length_cons, ← hl]
           simp only [List.length_take]
           simp only [List.length_drop, List.length_cons, List.length_append] at hqn ⊢
           have := hx.1.length_le
           simp at this; omega
          cases a with
          | nil => simp at hlen
          | cons d a =>
           simp only [List.length_cons] at hlen
           have hna : n = a.length := by omega
           subst hna
           have hd : [39] <+: (d :: a) ++ q' := by
            have := pre1.1 hx.1
            exact pre1.2 this
           rw [if_pos ⟨hd, hx.2⟩]
           unfold rawP
           have e1 : (c :: ((d :: a) ++ q')).drop 2 = a ++ q' := rfl
           have e2 : (c :: ((d :: a) ++ q)).drop 2 = a ++ q := rfl
           rw [e2] at hq
           rw [e1, qd_cut h hq]
           dsimp only
           rw [if_neg ho, hv]
           have e3 : ∀ q : Bs, (c :: ((d :: a) ++ q)).take (a.length + 2) = c :: d :: a := fun q => take_app (a := c :: d :: a)
           rw [e3, e3]; rfl
    · rw [if_neg hx] at hn
      injection hn with hn
      subst hn
      have hsl := spn_le isPartB (c :: (a ++ q))
      have hsp : spn isPartB ((c :: a) ++ q) = (c :: a).length := by
       simp only [Lib.toLowerA, List.length_map, List.length_take] at hl
       simp only [List.cons_append, List.length_cons] at *
       omega
      have hsp' := spn_cut part32 h hsp
      simp only [List.cons_append] at hsp hsp'
      have hx' : ¬ ([39] <+: a ++ q' ∧ (c = 120 ∨ c = 88)) := by
       rintro ⟨h1, h3⟩
       refine hx ⟨?_, h3⟩
       cases a with
       | nil => exact pre1.2 (h.head (by decide) (pre1.1 h1))
       | cons d a =>
        have := pre1.1 h1
        exact pre1.2 this
      rw [if_neg hx', hsp, hsp']
      have e : ∀ q : Bs, (c :: (a ++ q)).take (c :: a).length = c :: a := fun q => take_app (a := c :: a)
      rw [e, e]
  · rw [if_neg h2] at *
    by_cases h3 : ofB c = 3
    · rw [if_pos h3] at *
      exact num_cut (a := c :: a) h hn hl
    · rw [if_neg h3] at *
      by_cases hq9 : c = 39
      · rw [if_pos hq9] at *
        unfold textP at hn ⊢
        split at hn
        · cases hn
        · rename_i o n hq
          split at hn
          · cases hn
          · rename_i ho
            injection hn with hn
            subst hn
            have hqn := (qd_le _ _ _ hq).1
            have hna : n = a.length := by
             simp only [List.length_take, List.length_drop, List.length_cons, List.length_append] at hl hqn
             omega
            subst hna
            have e1 : ∀ q : Bs, (c :: (a ++ q)).drop 1 = a ++ q := fun _ => rfl
            rw [e1] at hq
            rw [e1, qd_cut h hq]
            dsimp only
            rw [if_neg ho]
            have e3 : ∀ q : Bs, (c :: (a ++ q)).take (a.length + 1) = c :: a := fun q => take_app (a := c :: a)
            rw [e3, e3]
      · rw [if_neg hq9] at *
        unfold signP at hn ⊢
        have two : ∀ x y : UInt8, ¬ Sepx y → ([x, y] <+: c :: (a ++ q')) → a = [] → [x, y] <+: c :: (a ++ q) := by
         intro x y hy hp ha
         subst ha
         simp only [List.nil_append, List.cons_prefix_cons] at *
         exact ⟨hp.1, pre1.2 (h.head hy (pre1.1 hp.2))⟩
        have two' : ∀ x y : UInt8, a ≠ [] → ([x, y] <+: c :: (a ++ q') ↔ [x, y] <+: c :: (a ++ q)) := by
         intro x y ha
         cases a with
         | nil => exact absurd rfl ha
         | cons d a => simp [List.cons_prefix_cons]
        by_cases ha : a = []
        · have no : ∀ x y k, z = (5, ([x, y], (k, (0, [])))) → False := by
           intro x y k e
           subst e; subst ha; simp at hl
          split at hn
          · injection hn with hn; exact absurd (no _ _ _ hn.symm) id
          · rename_i n1
            split at hn
            · injection hn with hn; exact absurd (no _ _ _ hn.symm) id
            · rename_i n2
              split at hn
              · injection hn with hn; exact absurd (no _ _ _ hn.symm) id
              · rename_i n3
                rw [if_neg (fun e => n1 (two _ _ (by decide) e ha)), if_neg (fun e => n2 (two _ _ (by decide) e ha)), if_neg (fun e => n3 (two _ _ (by decide) e ha))]
                exact hn
        · simp only [two' _ _ ha]
          exact hn
theorem next_blank {c : UInt8} {r : Bs} (h : ofB c = 1) : nextP (c :: r) = none := by
 unfold nextP
 dsimp only
 rw [if_neg (by omega), if_neg (by omega)]
 have hb : c.toNat = 32 ∨ c.toNat = 9 ∨ c.toNat = 10 ∨ c.toNat = 13 := by
  unfold ofB at h
  split at h
  · omega
  · split at h
    · omega
    · split at h
      · assumption
      · split at h <;> omega
 have hc : c = 32 ∨ c = 9 ∨ c = 10 ∨ c = 13 := by
  rcases hb with h | h | h | h
  · exact .inl (UInt8.toNat_inj.1 h)
  · exact .inr (.inl (UInt8.toNat_inj.1 h))
  · exact .inr (.inr (.inl (UInt8.toNat_inj.1 h)))
  · exact .inr (.inr (.inr (UInt8.toNat_inj.1 h)))
 unfold signP
 rcases hc with rfl | rfl | rfl | rfl <;> simp [List.cons_prefix_cons, signs, Lib.indexByte]
end Go.Proofs.YtbikfekdakigiaaGreatDoor.E.L
