/-
  Plain laws of the pure functions.
  Conditions: those that each statement prints, and no other.
-/
import Derived.Test.YtbikfekdakigiaaGreatDoorPSLexDP
import Derived.Test.YtbikfekdakigiaaGreatDoorPAlikeP
import Derived.Test.YtbikfekdakigiaaGreatDoorPRLexP
set_option linter.unusedVariables false
set_option linter.unusedSimpArgs false
namespace Go.Proofs.YtbikfekdakigiaaGreatDoor.E.L
open Go.Ev
set_option maxRecDepth 100000
theorem lx_raw {i : Nat} {w rest : Bs} {z : Tk} {l : List TT} (hb : ∀ c, w.head? = some c → ofB c ≠ 1) (hn : nextP (w ++ rest) = some z) (hl : z.2.1.length = w.length) (h : Lx (i + w.length) rest l) : Lx i (w ++ rest) (mk z i :: l) := by
 cases w with
 | nil => have := (next_len hn).1; rw [hl] at this; simp at this
 | cons c r =>
  refine .tok (hb c rfl) hn ?_
  rw [hl]
  show Lx _ (((c :: r) ++ rest).drop (c :: r).length) l
  rw [List.drop_left]
  exact h
def agn (s : Bs) (b : Nat → UInt8) : Nat → List TT → Bs
 | _, [] => []
 | k, t :: r => (s.drop (Int.toNat t.2.2.2.1)).take t.2.1.length ++ b k :: agn s b (k + 1) r
theorem agn_lx {s : Bs} {b : Nat → UInt8} (hb : ∀ k, ofB (b k) = 1 ∧ Sep (b k)) {i : Nat} {u : Bs} {l : List TT} (h : Lx i u l) : u = s.drop i → ∀ k j, ∃ l', Lx j (agn s b k l) l' ∧ LkE l l' ∧ (agn s b k l).length ≤ 2 * u.length := by
 induction h with
 | nil => exact fun _ k j => ⟨[], .nil, .nil, Nat.zero_le _⟩
 | @blank i c r l h hl ih =>
  intro hu k j
  have hr : r = s.drop (i + 1) := by rw [← List.drop_drop, ← hu]; rfl
  obtain ⟨l', h1, h2, h3⟩ := ih hr k j
  exact ⟨l', h1, h2, by simp only [List.length_cons]; omega⟩
 | @tok i c r z l h hn hl ih =>
  intro hu k j
  obtain ⟨n1, n2⟩ := next_len hn
  obtain ⟨l', h1, h2, h3⟩ := ih (by rw [hu, List.drop_drop]) (k + 1) (j + z.2.1.length + 1)
  have hw : ((c :: r).take z.2.1.length).length = z.2.1.length := by rw [List.length_take]; omega
  have e : agn s b k (mk z i :: l) = (c :: r).take z.2.1.length ++ b k :: agn s b (k + 1) l := by
   have e0 : agn s b k (mk z i :: l) = (s.drop i).take z.2.1.length ++ b k :: agn s b (k + 1) l := rfl
   rw [e0, ← hu]
  rw [e]
  have hn' : nextP ((c :: r).take z.2.1.length ++ (c :: r).drop z.2.1.length) = some z := by rw [List.take_append_drop]; exact hn
  refine ⟨mk z j :: l', lx_raw (fun d hd => ?_) (next_cut (.inr (.inl ⟨b k, rfl, (hb k).2⟩)) hn' hw.symm) hw.symm ?_, .cons ⟨rfl, fun _ => rfl, rfl⟩ h2, ?_⟩
  · have : ((c :: r).take z.2.1.length).head? = some c := by
     cases hz : z.2.1.length with
     | zero => omega
     | succ m => rfl
    rw [this] at hd
    injection hd with hd
    subst hd; exact h
  · rw [hw]
    exact .blank (hb k).1 h1
  · simp only [List.length_append, List.length_cons, hw]
    simp only [List.length_drop, List.length_cons] at h3 n2
    omega
def gr : Bool → Bs → Bs
 | _, [] => []
 | q, c :: r => (if (if c = 39 then !q else q) = true then c else upB c) :: gr (if c = 39 then !q else q) r
theorem gr_len : ∀ (q : Bool) (s : Bs), (gr q s).length = s.length
 | _, [] => rfl
 | q, c :: r => by simp [gr, gr_len]
theorem gr_word {q : Bs} : ∀ {a : Bs}, (∀ x ∈ a, x ≠ 39) → gr false (a ++ q) = a.map upB ++ gr false q
 | [], _ => rfl
 | c :: a, h => by
  have hc : c ≠ 39 := h c (by simp)
  simp only [List.cons_append, gr, if_neg hc, List.map_cons]
  rw [gr_word fun x hx => h x (by simp [hx])]
  simp
theorem gr_plain {a q : Bs} (h : ∀ x ∈ a, x ≠ 39 ∧ upB x = x) : gr false (a ++ q) = a ++ gr false q := by
 rw [gr_word fun x hx => (h x hx).1]
 congr 1
 have : a.map upB = a.map id := List.map_congr_left fun x hx => (h x hx).2
 rw [this, List.map_id]
theorem gr_39 (q : Bool) (r : Bs) : gr q (39 :: r) = 39 :: gr (!q) r := by
 have : upB 39 = 39 := by decide
 simp [gr, this]
theorem gr_quote : ∀ (t : Bs) (o : Bs) (n : Nat), qd t = some (o, n) → gr true t = t.take n ++ gr false (t.drop n)
 | [], _, _, h => by cases h
 | [c], o, n, h => by
  unfold qd at h
  split at h
  · rename_i hc
    cases h
    subst hc
    rw [gr_39]; rfl
  · cases h
 | c :: d :: r, o, n, h => by
  unfold qd at h
  split at h
  · rename_i hc
    subst hc
    split at h
    · rename_i hd
      subst hd
      obtain ⟨⟨o', n'⟩, h1, h2⟩ := Option.map_eq_some_iff.1 h
      cases h2
      rw [gr_39, gr_39]
      show 39 :: 39 :: gr true r = _
      rw [gr_quote r o' n' h1]; rfl
    · cases h
      rw [gr_39]; rfl
  · rename_i hc
    obtain ⟨⟨o', n'⟩, h1, h2⟩ := Option.map_eq_some_iff.1 h
    cases h2
    have := gr_quote (d :: r) o' n' h1
    have e : gr true (c :: d :: r) = c :: gr true (d :: r) := by
     conv => lhs; unfold gr
     simp [hc]
    rw [e, this]; rfl
theorem gr_fits (q : Bs) : Fits q (gr false q) := by
 cases q with
 | nil => exact .inl rfl
 | cons c r =>
  by_cases hc : c = 39
  · subst hc; rw [gr_39]; exact .inl rfl
  · refine .inr (.inr ⟨c, rfl, ?_⟩)
    simp [gr, hc]
theorem up_of (c : UInt8) : (ofB (upB c) = 1 ↔ ofB c = 1) ∧ (ofB (upB c) = 2 ↔ ofB c = 2) ∧ (ofB c ≠ 2 → upB c = c) ∧ (isPartB c = true → c ≠ 39) ∧ (ofB c = 1 → c ≠ 39) := by
 have key : ∀ k : Fin 256, (ofB (upB (UInt8.ofNat k.val)) = 1 ↔ ofB (UInt8.ofNat k.val) = 1) ∧ (ofB (upB (UInt8.ofNat k.val)) = 2 ↔ ofB (UInt8.ofNat k.val) = 2) ∧ (ofB (UInt8.ofNat k.val) ≠ 2 → upB (UInt8.ofNat k.val) = UInt8.ofNat k.val) ∧ (isPartB (UInt8.ofNat k.val) = true → UInt8.ofNat k.val ≠ 39) ∧ (ofB (UInt8.ofNat k.val) = 1 → UInt8.ofNat k.val ≠ 39) := by decide +kernel
 have := key ⟨c.toNat, c.toNat_lt⟩
 rwa [byteV] at this
theorem up_low (a : Bs) : Lib.toLowerA (a.map upB) = Lib.toLowerA a := by
 have key : ∀ k : Fin 256, Lib.toLowerA [upB (UInt8.ofNat k.val)] = Lib.toLowerA [UInt8.ofNat k.val] := by decide +kernel
 induction a with
 | nil => rfl
 | cons c a ih =>
  have := key ⟨c.toNat, c.toNat_lt⟩
  rw [byteV] at this
  simp only [Lib.toLowerA, List.map_cons, List.map_nil, List.cons.injEq, and_true] at this ih ⊢
  exact ⟨this, ih⟩
def ZkE (z z' : Tk) : Prop := z.1 = z'.1 ∧ (z.1 = 1 ∨ z.1 = 5 → z.2.1 = z'.2.1) ∧ z.2.2 = z'.2.2
theorem tok_plain {a q s : Bs} {z : Tk} (hs : s = a ++ q) (hn : nextP s = some z) (hl : z.2.1.length = a.length) (h : ∀ x ∈ a, x ≠ 39 ∧ upB x = x) :
 ∃ z', nextP (gr false s) = some z' ∧ z'.2.1.length = z.2.1.length ∧ ZkE z z' ∧ (gr false s).drop z.2.1.length = gr false (s.drop z.2.1.length) := by
 subst hs
 rw [gr_plain h]
 refine ⟨z, next_cut (gr_fits q) hn hl, rfl, ⟨rfl, fun _ => rfl, rfl⟩, ?_⟩
 rw [hl, List.drop_left, List.drop_left]
theorem spn_mem (p : UInt8 → Bool) {s : Bs} {n : Nat} (hn : n ≤ spn p s) : ∀ x ∈ s.take n, p x = true := by
 intro x hx
 have : x ∈ s.take (spn p s) := by
  have h1 : s.take n = (s.take (spn p s)).take n := by rw [List.take_take, Nat.min_eq_left hn]
  rw [h1] at hx
  exact List.mem_of_mem_take hx
 rw [take_spn] at this
 exact tw_mem this
theorem tok_great {c : UInt8} {r : Bs} {z : Tk} (hn : nextP (c :: r) = some z) :
 ∃ z', nextP (gr false (c :: r)) = some z' ∧ z'.2.1.length = z.2.1.length ∧ ZkE z z' ∧ (gr false (c :: r)).drop z.2.1.length = gr false ((c :: r).drop z.2.1.length) := by
 have hlen := next_len hn
 have hn0 := hn
 unfold nextP at hn
 dsimp only at hn
 by_cases h2 : ofB c = 2
 · rw [if_pos h2] at hn
   have hc39 : c ≠ 39 := by rintro rfl; exact absurd h2 (by decide)
   by_cases hx : [39] <+: r ∧ (c = 120 ∨ c = 88)
   · rw [if_pos hx] at hn
     obtain ⟨⟨t, ht⟩, hx2⟩ := hx
     subst ht
     unfold rawP at hn
     have e2 : (c :: ([39] ++ t)).drop 2 = t := rfl
     rw [e2] at hn
     split at hn
     · cases hn
     · rename_i o n hq
       split at hn
       · cases hn
       · rename_i ho
         obtain ⟨v, hv, rfl⟩ := Option.map_eq_some_iff.1 hn
         have hqn := (qd_le _ _ _ hq).1
         have eg : gr false (c :: ([39] ++ t)) = upB c :: 39 :: (t.take n ++ gr false (t.drop n)) := by
          have : gr false (c :: ([39] ++ t)) = upB c :: gr false (39 :: t) := by simp [gr, hc39]
          rw [this, gr_39]
          show _ :: _ :: gr true t = _
          rw [gr_quote t o n hq]
         have hq' : qd (t.take n ++ gr false (t.drop n)) = some (o, n) := by
          have hl : (t.take n).length = n := by rw [List.length_take]; omega
          have := qd_cut (gr_fits (t.drop n)) (a := t.take n) (o := o) (by rw [List.take_append_drop, hl]; exact hq)
          rw [hl] at this; exact this
         have h88 : upB c = 88 := by rcases hx2 with rfl | rfl <;> decide
         have htl : (List.take n t).length = n := by rw [List.length_take]; omega
         refine ⟨(4, (List.take (n + 2) (upB c :: 39 :: (t.take n ++ gr false (t.drop n))), (5, (0, v)))), ?_, ?_, ⟨rfl, fun h => h.elim (fun h => absurd (show (4 : Int) = 1 from h) (by decide)) (fun h => absurd (show (4 : Int) = 5 from h) (by decide)), rfl⟩, ?_⟩
         · rw [eg]
           unfold nextP
           dsimp only
           rw [if_pos ((up_of c).2.1.2 h2), if_pos ⟨⟨_, rfl⟩, .inr h88⟩]
           unfold rawP
           have e3 : (upB c :: 39 :: (t.take n ++ gr false (t.drop n))).drop 2 = t.take n ++ gr false (t.drop n) := rfl
           rw [e3, hq']
           dsimp only
           rw [if_neg ho, hv]; rfl
         · simp only [List.length_take, List.length_cons, List.length_append, List.length_nil]; omega
         · rw [eg]
           have hz : (List.take (n + 2) (c :: ([39] ++ t))).length = n + 2 := by simp only [List.length_take, List.length_cons, List.length_append, List.length_nil]; omega
           show List.drop (List.take (n + 2) (c :: ([39] ++ t))).length _ = gr false (List.drop (List.take (n + 2) (c :: ([39] ++ t))).length _)
           rw [hz]
           show List.drop n (t.take n ++ gr false (t.drop n)) = gr false (List.drop n t)
           have : ∀ q : Bs, List.drop n (t.take n ++ q) = q := fun q => by
            have := List.drop_left (l₁ := t.take n) (l₂ := q)
            rwa [htl] at this
           rw [this]
   · rw [if_neg hx] at hn
     cases hn
     have hsp := spn_le isPartB (c :: r)
     have hs1 : 1 ≤ spn isPartB (c :: r) := by rw [spn_cons, if_pos (by simp [isPartB, h2])]; omega
     have hmem := spn_mem isPartB (Nat.le_refl (spn isPartB (c :: r)))
     have hend : ∀ x, ((c :: r).drop (spn isPartB (c :: r))).head? = some x → isPartB x = false := by
      have gen : ∀ (s : Bs) (x : UInt8), (s.drop (spn isPartB s)).head? = some x → isPartB x = false := by
       intro s x hx
       induction s with
       | nil => cases hx
       | cons c r ih =>
        rw [spn_cons] at hx
        by_cases hp : isPartB c = true
        · rw [if_pos hp, List.drop_succ_cons] at hx; exact ih hx
        · rw [if_neg hp, List.drop_zero] at hx
          injection hx with hx
          subst hx
          simpa using hp
      exact gen _
     have hzl : (Lib.toLowerA ((c :: r).take (spn isPartB (c :: r)))).length = spn isPartB (c :: r) := by simp only [Lib.toLowerA, List.length_map, List.length_take]; omega
     have htd : (c :: r).take (spn isPartB (c :: r)) ++ (c :: r).drop (spn isPartB (c :: r)) = c :: r := List.take_append_drop _ _
     obtain ⟨m, hm⟩ : ∃ m, spn isPartB (c :: r) = m + 1 := ⟨spn isPartB (c :: r) - 1, by omega⟩
     rw [hm] at hmem hend hzl htd ⊢
     simp only [List.take_succ_cons, List.drop_succ_cons] at hmem hend hzl htd ⊢
     have hr : r = r.take m ++ r.drop m := (List.take_append_drop m r).symm
     have hml : (r.take m).length = m := by
      simp only [Lib.toLowerA, List.length_map, List.length_cons] at hzl; omega
     have eg : gr false (c :: r) = upB c :: ((r.take m).map upB ++ gr false (r.drop m)) := by
      have h0 : gr false (c :: r) = gr false ((c :: r.take m) ++ r.drop m) := by rw [List.cons_append, ← hr]
      rw [h0, gr_word fun x hx => (up_of x).2.2.2.1 (hmem x hx)]; rfl
     have hw := word_of (c := upB c) (a := (r.take m).map upB) (q := gr false (r.drop m)) ((up_of c).2.1.2 h2) (fun x hx => by
      rw [← List.map_cons] at hx
      obtain ⟨y, hy, rfl⟩ := List.mem_map.1 hx
      rw [up_part]; exact hmem y hy) (fun x hx => by
      rcases gr_fits (r.drop m) with h | ⟨d, h, hd⟩ | ⟨d, h, hd⟩
      · rw [h] at hx; exact hend x hx
      · rw [h] at hx; injection hx with hx; rw [← hx]; exact part32.1 d hd
      · rw [hd] at hx; injection hx with hx; rw [← hx, up_part]; exact hend d h) (fun ⟨h, h'⟩ => by
      refine hx ⟨?_, ?_⟩
      · have h := pre1.1 h
        refine pre1.2 ?_
        rw [hr]
        cases hm2 : r.take m with
        | nil =>
         rw [hm2] at h
         exact (gr_fits (r.drop m)).head (by decide) h
        | cons d q =>
         rw [hm2] at h
         injection h with h
         have : d = 39 := up_ne (by decide) h
         rw [this]; rfl
      · rcases h' with h' | h'
        · exact .inl (up_ne (by decide) h')
        · have key : ∀ k : Fin 256, upB (UInt8.ofNat k.val) = 88 → UInt8.ofNat k.val = 120 ∨ UInt8.ofNat k.val = 88 := by decide +kernel
          have := key ⟨c.toNat, c.toNat_lt⟩
          rw [byteV] at this
          exact this h')
     have hlow : Lib.toLowerA (upB c :: (r.take m).map upB) = Lib.toLowerA (c :: r.take m) := up_low (c :: r.take m)
     rw [hlow, ← eg] at hw
     refine ⟨_, hw, rfl, ⟨rfl, fun _ => rfl, rfl⟩, ?_⟩
     show List.drop (Lib.toLowerA (c :: r.take m)).length (gr false (c :: r)) = gr false (List.drop (Lib.toLowerA (c :: r.take m)).length (c :: r))
     rw [hzl, eg, List.drop_succ_cons, List.drop_succ_cons]
     have := List.drop_left (l₁ := (r.take m).map upB) (l₂ := gr false (r.drop m))
     rw [List.length_map, hml] at this
     exact this
 · rw [if_neg h2] at hn
   by_cases h3 : ofB c = 3
   · rw [if_pos h3] at hn
     have hz := numP_len hn
     have hzl : z.2.1.length ≤ (c :: r).length := hlen.2
     refine tok_plain (a := z.2.1) (q := (c :: r).drop z.2.1.length) ?_ hn0 rfl ?_
     · have : z.2.1 = (c :: r).take z.2.1.length := by
        conv => lhs; rw [hz]
        have hk : z.2.1.length = min (if [46] <+: (c :: r).drop (spn isFigB (c :: r)) then spn isFigB (c :: r) + 1 + spn isFigB ((c :: r).drop (spn isFigB (c :: r) + 1)) else spn isFigB (c :: r)) (c :: r).length := by rw [hz, List.length_take]
        rw [hk]
        rw [List.take_eq_take_iff]; omega
       conv => rhs; arg 1; rw [this]
       exact (List.take_append_drop _ _).symm
     · have hfig : ∀ x : UInt8, isFigB x = true → x ≠ 39 ∧ upB x = x := by
        intro x hx
        have key : ∀ k : Fin 256, isFigB (UInt8.ofNat k.val) = true → UInt8.ofNat k.val ≠ 39 ∧ upB (UInt8.ofNat k.val) = UInt8.ofNat k.val := by decide +kernel
        have := key ⟨x.toNat, x.toNat_lt⟩
        rw [byteV] at this
        exact this hx
       intro x hx
       rw [hz] at hx
       split at hx
       · rename_i hp
         obtain ⟨t, ht⟩ := hp
         have e : (c :: r) = (c :: r).take (spn isFigB (c :: r)) ++ ([46] ++ t) := by rw [ht]; exact (List.take_append_drop _ _).symm
         have ed : (c :: r).drop (spn isFigB (c :: r) + 1) = t := by rw [← List.drop_drop, ← ht]; rfl
         rw [ed] at hx
         have hl0 : ((c :: r).take (spn isFigB (c :: r))).length = spn isFigB (c :: r) := by rw [List.length_take]; have := spn_le isFigB (c :: r); omega
         have hx' : x ∈ (c :: r).take (spn isFigB (c :: r)) ++ ([46] ++ t.take (spn isFigB t)) := by
          have : List.take (spn isFigB (c :: r) + 1 + spn isFigB t) (c :: r) = (c :: r).take (spn isFigB (c :: r)) ++ ([46] ++ t.take (spn isFigB t)) := by
           conv => lhs; arg 2; rw [e]
           rw [List.take_append, hl0, List.take_of_length_le (by rw [hl0]; omega)]
           congr 1
           rw [show spn isFigB (c :: r) + 1 + spn isFigB t - spn isFigB (c :: r) = spn isFigB t + 1 by omega]
           rfl
          rw [← this]; exact hx
         rcases List.mem_append.1 hx' with h | h
         · exact hfig x (spn_mem isFigB (Nat.le_refl _) x h)
         · rcases List.mem_append.1 h with h | h
           · rw [List.mem_singleton.1 h]; decide
           · exact hfig x (spn_mem isFigB (Nat.le_refl _) x h)
       · exact hfig x (spn_mem isFigB (Nat.le_refl _) x hx)
   · rw [if_neg h3] at hn
     by_cases hq9 : c = 39
     · rw [if_pos hq9] at hn
       subst hq9
       unfold textP at hn
       have e1 : (39 :: r).drop 1 = r := rfl
       rw [e1] at hn
       split at hn
       · cases hn
       · rename_i o n hq
         split at hn
         · cases hn
         · rename_i ho
           cases hn
           have hqn := (qd_le _ _ _ hq).1
           have hl : (r.take n).length = n := by rw [List.length_take]; omega
           have eg : gr false (39 :: r) = (39 :: r.take n) ++ gr false (r.drop n) := by
            rw [gr_39]
            show 39 :: gr true r = _
            rw [gr_quote r o n hq]; rfl
           have hn1 : nextP ((39 :: r.take n) ++ r.drop n) = some (3, (List.take (n + 1) (39 :: r), (4, (0, o)))) := by rw [List.cons_append, List.take_append_drop]; exact hn0
           have hz : (List.take (n + 1) (39 :: r)).length = (39 :: r.take n).length := by simp only [List.length_take, List.length_cons]; omega
           rw [eg]
           refine ⟨_, next_cut (gr_fits (r.drop n)) hn1 hz, rfl, ⟨rfl, fun _ => rfl, rfl⟩, ?_⟩
           show List.drop (List.take (n + 1) (39 :: r)).length _ = gr false (List.drop (List.take (n + 1) (39 :: r)).length (39 :: r))
           rw [hz, List.drop_left]
           congr 1
           simp only [List.length_cons, hl, List.drop_succ_cons]
     · rw [if_neg hq9] at hn
       have hup := (up_of c).2.2.1 h2
       unfold signP at hn
       have two : ∀ x y : UInt8, [x, y] <+: c :: r → (x ≠ 39 ∧ upB x = x) → (y ≠ 39 ∧ upB y = y) → z.2.1 = [x, y] → _ := fun x y ⟨t, ht⟩ hx hy hzz => tok_plain (a := [x, y]) (q := t) (s := c :: r) ht.symm hn0 (by rw [hzz]) (fun w hw => by
        simp only [List.mem_cons, List.not_mem_nil, or_false] at hw
        rcases hw with rfl | rfl
        · exact hx
        · exact hy)
       split at hn
       · rename_i hp; injection hn with hn; exact two _ _ hp (by decide) (by decide) (by rw [← hn])
       · split at hn
         · rename_i hp; injection hn with hn; exact two _ _ hp (by decide) (by decide) (by rw [← hn])
         · split at hn
           · rename_i hp; injection hn with hn; exact two _ _ hp (by decide) (by decide) (by rw [← hn])
           · dsimp only at hn
             split at hn
             · injection hn with hn
               exact tok_plain (a := [c]) (q := r) rfl hn0 (by rw [← hn]) (fun w hw => by rw [List.mem_singleton.1 hw]; exact ⟨hq9, hup⟩)
             · cases hn
theorem great_lx {i : Nat} {s : Bs} {l : List TT} (h : Lx i s l) : ∃ l', Lx i (gr false s) l' ∧ LkE l l' := by
 induction h with
 | nil => exact ⟨[], .nil, .nil⟩
 | @blank i c r l h _ ih =>
  obtain ⟨l', h1, h2⟩ := ih
  have hc := (up_of c).2.2.2.2 h
  have hu := (up_of c).2.2.1 (by omega)
  refine ⟨l', ?_, h2⟩
  have e : gr false (c :: r) = c :: gr false r := by simp [gr, hc, hu]
  rw [e]
  exact .blank h h1
 | @tok i c r z l h hn _ ih =>
  obtain ⟨l', h1, h2⟩ := ih
  obtain ⟨z', g1, g2, g3, g4⟩ := tok_great hn
  have e : ∃ d q, gr false (c :: r) = d :: q ∧ ofB d ≠ 1 := by
   refine ⟨_, _, rfl, ?_⟩
   split
   · exact h
   · exact fun hh => h ((up_of c).1.1 hh)
  obtain ⟨d, q, e, hd⟩ := e
  refine ⟨mk z' i :: l', ?_, .cons ⟨g3.1, g3.2.1, ?_⟩ h2⟩
  · rw [e] at g1 g4 ⊢
    refine .tok hd g1 ?_
    rw [g2, g4]; exact h1
  · have := g3.2.2
    show ((z.2.2.1, (z.2.2.2.1, (z.2.2.2.2, ()))) : Int × Int × Bs × Unit) = (z'.2.2.1, (z'.2.2.2.1, (z'.2.2.2.2, ())))
    rw [this]
end Go.Proofs.YtbikfekdakigiaaGreatDoor.E.L
