/-
  Plain laws of the pure functions.
  Conditions: those that each statement prints, and no other.
-/
import Derived.Test.YtbikfekdakigiaaGreatDoorPParSP
set_option linter.unusedVariables false
set_option linter.unusedSimpArgs false
namespace Go.Proofs.YtbikfekdakigiaaGreatDoor.E
open Go.Ev
mutual
def hgt : Ex → Nat
 | .mk _ _ _ _ _ _ _ ks _ _ => 1 + hgtL ks
def hgtL : List Ex → Nat
 | [] => 0
 | x :: r => hgt x + hgtL r
end
theorem hgt_mkX (op : Int) (ks : List Ex) (a : Int) : hgt (mkX op ks a) = 1 + hgtL ks := by simp [mkX, hgt]
def lenS : PS → Nat
 | none => 0
 | some l => l.length
theorem lenS_some (l : List Tk) : lenS (some l) = l.length := rfl
def Post (l0 : Nat) (x : Ex) (st : PS) : Prop := match st with
 | none => True
 | some l => Wt l ∧ l.length < l0 ∧ hgt x ≤ 2 * (l0 - l.length)
def WS (st : PS) : Prop := match st with
 | none => True
 | some l => Wt l
def Tot (L : Nat) (f : PS → PRes) : Prop := ∀ st, WS st → lenS st < L → ∃ x st', f st = some (x, st') ∧ Post (lenS st) x st' ∧ (st = none → st' = none)
theorem Post.mono {a b : Nat} {x : Ex} {st : PS} (h : Post a x st) (hab : a ≤ b) : Post b x st := by
 cases st with
 | none => trivial
 | some l => obtain ⟨h1, h2, h3⟩ := h; exact ⟨h1, by omega, by omega⟩
theorem Post.ws {a : Nat} {x : Ex} {st : PS} (h : Post a x st) : WS st := by
 cases st with
 | none => trivial
 | some l => exact h.1
theorem Post.len {a : Nat} {x : Ex} {st : PS} (h : Post a x st) : lenS st ≤ a := by
 cases st with
 | none => exact Nat.zero_le _
 | some l => have := h.2.1; rw [lenS_some]; omega
theorem Post.up {a b : Nat} {x y : Ex} {st : PS} (h : Post a x st) (hab : a + 1 ≤ b) (hy : hgt y ≤ 1 + hgt x) : Post b y st := by
 cases st with
 | none => trivial
 | some l => obtain ⟨h1, h2, h3⟩ := h; exact ⟨h1, by omega, by omega⟩
theorem sTake_len (s : List UInt8) (st : PS) : lenS (sTake s st) ≤ lenS st := by
 cases st with
 | none => simp [sTake, sIs, lenS]
 | some l =>
  cases l with
  | nil => simp [sTake, sIs, lenS]
  | cons t r =>
   simp only [sTake, sIs, sTl]
   cases isTok s t <;> simp [lenS]
theorem sTake_ws (s : List UInt8) {st : PS} (h : WS st) : WS (sTake s st) := by
 cases st with
 | none => trivial
 | some l =>
  cases l with
  | nil => exact h
  | cons t r =>
   simp only [sTake, sIs, sTl]
   cases ht : isTok s t
   · exact h
   · exact Wt.tok h ht
theorem sWant_none (s : List UInt8) : sWant s none = none := rfl
theorem sWant_len (s : List UInt8) (st : PS) : ∀ l, sWant s st = some l → l.length + 1 = lenS st := by
 intro l h
 cases st with
 | none => cases h
 | some l0 =>
  cases l0 with
  | nil => simp [sWant, sIs] at h
  | cons t r =>
   simp only [sWant, sIs, sTl] at h
   cases ht : isTok s t
   · rw [ht] at h; cases h
   · rw [ht] at h; cases h; simp [lenS]
theorem sWant_le (s : List UInt8) (st : PS) : lenS (sWant s st) ≤ lenS st := by
 cases h : sWant s st with
 | none => exact Nat.zero_le _
 | some l => have := sWant_len s st l h; rw [lenS_some]; omega
theorem sWant_ws (s : List UInt8) {st : PS} (h : WS st) : WS (sWant s st) := by
 cases st with
 | none => trivial
 | some l =>
  cases l with
  | nil => exact h.elim
  | cons t r =>
   simp only [sWant, sIs, sTl]
   cases ht : isTok s t
   · trivial
   · exact Wt.tok h ht
theorem hgtL_one (x : Ex) : hgtL [x] = hgt x := by simp [hgtL]
theorem hgtL_two (x y : Ex) : hgtL [x, y] = hgt x + hgt y := by simp [hgtL]
theorem hgt_pos (x : Ex) : 1 ≤ hgt x := by cases x; simp [hgt]
theorem hgt_leaf (op vk vn : Int) (vs tab name : List UInt8) (num kind at_ : Int) : hgt (.mk op vk vn vs tab name num [] kind at_) = 1 := by simp [hgt, hgtL]
theorem within_tot {L : Nat} {f : Int → PS → PRes} {d : Int} (h : d < 64 → Tot L (f (d + 1))) : Tot L (withinS f d) := by
 intro st hw hL
 cases st with
 | none => exact ⟨_, _, rfl, trivial, fun _ => rfl⟩
 | some l =>
  simp only [withinS]
  by_cases hd : 64 ≤ d
  · rw [if_pos hd]; exact ⟨_, _, rfl, trivial, fun h => by cases h⟩
  · rw [if_neg hd]; exact h (by omega) (some l) hw hL
theorem inner_tot {L : Nat} {Z : ZS} {d : Int} (h : d < 64 → Tot L (Z.wh (d + 1))) : Tot L (innerS Z d) := by
 intro st hw hL
 obtain ⟨x, st1, e1, p1, n1⟩ := within_tot h (sWant [40] st) (sWant_ws _ hw) (Nat.lt_of_le_of_lt (sWant_le _ _) hL)
 refine ⟨x, sWant [41] st1, by simp [innerS, e1], ?_, fun hs => ?_⟩
 · cases hq : sWant [41] st1 with
   | none => trivial
   | some l2 =>
    have h2 := sWant_len [41] st1 l2 hq
    cases st1 with
    | none => cases hq
    | some l1 =>
     cases hs : sWant [40] st with
     | none => have := n1 hs; cases this
     | some l0 =>
      have h0 := sWant_len [40] st l0 hs
      rw [hs] at p1
      obtain ⟨w1, a1, b1⟩ := p1
      simp only [lenS_some] at h2 h0 a1 b1
      have hw2 : WS (sWant [41] (some l1)) := sWant_ws [41] (st := some l1) w1
      rw [hq] at hw2
      exact ⟨hw2, by omega, by omega⟩
 · subst hs; rw [n1 rfl]; rfl
theorem word_tot {L : Nat} {Z : ZS} {d : Int} (h : d < 64 → Tot L (Z.wh (d + 1))) {t : Tk} {r : List Tk} (hw : Wt (t :: r)) (hL : r.length < L) (hk : t.1 = 1) : ∃ x st', wordS Z d t r = some (x, st') ∧ Post (r.length + 1) x st' := by
 have hr := hw.tl (show t.1 ≠ 6 by omega)
 have agg : ∀ op : Int, ∃ x st', ((innerS Z d (some r)).bind fun y => some (mkX op [y.1] t.2.2.2.1, y.2)) = some (x, st') ∧ Post (r.length + 1) x st' := by
  intro op
  obtain ⟨x, st1, e1, p1, _⟩ := inner_tot h (some r) hr hL
  exact ⟨mkX op [x] t.2.2.2.1, st1, by rw [e1]; rfl, p1.up (Nat.le_refl _) (by rw [hgt_mkX, hgtL_one]; omega)⟩
 have leaf : ∀ (op vk vn : Int) (vs tab name : List UInt8) (num kind at_ : Int), Post (r.length + 1) (.mk op vk vn vs tab name num [] kind at_) (some r) := fun op vk vn vs tab name num kind at_ => ⟨hr, by omega, by rw [hgt_leaf]; omega⟩
 have nam : ∀ (op vk vn : Int) (vs tab name : List UInt8) (num kind at_ : Int) (st : PS), WS st → (∀ l, st = some l → l.length ≤ r.length) → Post (r.length + 1) (.mk op vk vn vs tab name num [] kind at_) st := by
  intro op vk vn vs tab name num kind at_ st hs hl
  cases st with
  | none => trivial
  | some l => have := hl l rfl; exact ⟨hs, by omega, by rw [hgt_leaf]; omega⟩
 unfold wordS
 by_cases k1 : t.2.1 = [116, 114, 117, 101]
 · rw [if_pos k1]; exact ⟨_, _, rfl, leaf ..⟩
 rw [if_neg k1]
 by_cases k2 : t.2.1 = [102, 97, 108, 115, 101]
 · rw [if_pos k2]; exact ⟨_, _, rfl, leaf ..⟩
 rw [if_neg k2]
 by_cases k3 : t.2.1 = [110, 117, 108, 108]
 · rw [if_pos k3]; exact ⟨_, _, rfl, leaf ..⟩
 rw [if_neg k3]
 by_cases k4 : t.2.1 = [99, 111, 117, 110, 116]
 · rw [if_pos k4]
   obtain ⟨a, r1, rfl⟩ := hr.cons
   cases r1 with
   | nil => exact agg 18
   | cons b c =>
    dsimp only
    by_cases hh : a.1 = 5 ∧ a.2.1 = [40] ∧ b.1 = 5 ∧ b.2.1 = [42]
    · rw [if_pos hh]
      have hc : Wt c := (hr.tl (by omega)).tl (by omega)
      refine ⟨_, _, rfl, nam _ _ _ _ _ _ _ _ _ _ (sWant_ws [41] (st := some c) hc) fun l hl => ?_⟩
      have := sWant_len [41] (some c) l hl
      simp only [lenS_some, List.length_cons] at this ⊢; omega
    · rw [if_neg hh]; exact agg 18
 rw [if_neg k4]
 by_cases k5 : t.2.1 = [115, 117, 109]
 · rw [if_pos k5]; exact agg 19
 rw [if_neg k5]
 by_cases k6 : t.2.1 = [109, 105, 110]
 · rw [if_pos k6]; exact agg 20
 rw [if_neg k6]
 by_cases k7 : t.2.1 = [109, 97, 120]
 · rw [if_pos k7]; exact agg 21
 rw [if_neg k7]
 have name : ∀ st, WS st → WS (sName st).2 ∧ ∀ l, (sName st).2 = some l → l.length + 1 = lenS st := by
  intro st hs
  cases st with
  | none => exact ⟨trivial, fun l h => by cases h⟩
  | some l0 =>
   cases l0 with
   | nil => exact hs.elim
   | cons u v =>
    simp only [sName]
    split
    · rename_i h1; exact ⟨Wt.tl hs (by omega), fun l h => by cases h; simp [lenS]⟩
    · exact ⟨trivial, fun l h => by cases h⟩
 obtain ⟨n1, n2⟩ := name (some (t :: r)) hw
 have hle : lenS (sName (some (t :: r))).2 ≤ r.length := by
  cases hq : (sName (some (t :: r))).2 with
  | none => simp [lenS]
  | some l => have := n2 l hq; simp only [lenS_some, List.length_cons] at this ⊢; omega
 have ht := sTake_len [46] (sName (some (t :: r))).2
 have htw := sTake_ws [46] n1
 dsimp only
 split
 · obtain ⟨m1, m2⟩ := name _ htw
   exact ⟨_, _, rfl, nam _ _ _ _ _ _ _ _ _ _ m1 fun l hl => by have := m2 l hl; omega⟩
 · refine ⟨_, _, rfl, nam _ _ _ _ _ _ _ _ _ _ htw fun l hl => ?_⟩
   rw [hl] at ht; simp only [lenS_some] at ht; omega
theorem one_tot {L : Nat} {Z : ZS} {d : Int} (h : d < 64 → Tot L (Z.wh (d + 1))) : Tot L (oneS Z d) := by
 intro st hw hL
 cases st with
 | none => exact ⟨_, _, rfl, trivial, fun _ => rfl⟩
 | some l =>
  obtain ⟨t, r, rfl⟩ := Wt.cons hw
  simp only [oneS]
  by_cases k : t.1 = 2 ∨ t.1 = 3 ∨ t.1 = 4
  · rw [if_pos k]
    exact ⟨_, _, rfl, ⟨Wt.tl hw (by omega), by simp [lenS], by rw [hgt_leaf]; simp [lenS]⟩, fun h => by cases h⟩
  rw [if_neg k]
  by_cases k5 : t.1 = 5
  · rw [if_pos k5]
    by_cases k40 : t.2.1 = [40]
    · rw [if_pos k40]; exact inner_tot h _ hw hL
    · rw [if_neg k40]; exact ⟨_, _, rfl, trivial, fun h => by cases h⟩
  rw [if_neg k5]
  by_cases k1 : t.1 = 1
  · rw [if_pos k1]
    obtain ⟨x, st', e, p⟩ := word_tot h hw (by simp only [lenS_some, List.length_cons] at hL; omega) k1
    exact ⟨x, st', e, p, fun h => by cases h⟩
  · rw [if_neg k1]; exact ⟨_, _, rfl, trivial, fun h => by cases h⟩
theorem sign_tot {L : Nat} {Z : ZS} {d : Int} (h : d < 64 → Tot L (Z.wh (d + 1))) (hs : d < 64 → Tot L (Z.sg (d + 1))) : Tot L (signS Z d) := by
 intro st hw hL
 cases st with
 | none => exact one_tot h none hw hL
 | some l =>
  obtain ⟨t, r, rfl⟩ := Wt.cons hw
  simp only [signS]
  cases ht : isTok [45] t
  · rw [if_neg (by simp)]; exact one_tot h _ hw hL
  · rw [if_pos rfl]
    obtain ⟨x, st1, e1, p1, _⟩ := within_tot hs (some r) (Wt.tok hw ht) (by simp only [lenS_some, List.length_cons] at hL ⊢; omega)
    exact ⟨mkX 7 [x] t.2.2.2.1, st1, by rw [e1]; rfl, p1.up (by simp [lenS]) (by rw [hgt_mkX, hgtL_one]; omega), fun h => by cases h⟩
theorem test_tot {L : Nat} {Z : ZS} {d : Int} (h : Tot L (Z.ex 3 d)) : Tot L (testS Z d) := by
 intro st hw hL
 obtain ⟨x, st1, e1, p1, n1⟩ := h st hw hL
 unfold testS
 rw [e1, bind_some']
 cases st1 with
 | none => exact ⟨_, _, rfl, trivial, fun _ => rfl⟩
 | some l1 =>
  obtain ⟨w1, a1, b1⟩ := p1
  obtain ⟨t, r, rfl⟩ := w1.cons
  have hne : st ≠ none := fun hh => by have := n1 hh; cases this
  dsimp only
  cases ht : isTok kIs t
  · rw [if_neg (by simp)]
    by_cases hc : t.1 = 5 ∧ cmpOp t.2.1 ≠ 0
    · rw [if_pos hc]
      obtain ⟨y, st2, e2, p2, n2⟩ := h (some r) (w1.tl (by omega)) (by simp only [lenS_some, List.length_cons] at a1 ⊢; omega)
      rw [e2, bind_some']
      refine ⟨_, _, rfl, ?_, fun hh => absurd hh hne⟩
      cases st2 with
      | none => trivial
      | some l2 =>
       obtain ⟨w2, a2, b2⟩ := p2
       simp only [lenS_some, List.length_cons] at a2 b2 a1 b1
       exact ⟨w2, by omega, by rw [hgt_mkX]; show 1 + hgtL [x, y] ≤ _; rw [hgtL_two]; omega⟩
    · rw [if_neg hc]
      exact ⟨_, _, rfl, ⟨w1, a1, b1⟩, fun hh => absurd hh hne⟩
  · rw [if_pos rfl]
    have hr := w1.tok ht
    have hl := sTake_len kNot (some r)
    refine ⟨_, _, rfl, ?_, fun hh => absurd hh hne⟩
    cases hq : sWant kNull (sTake kNot (some r)) with
    | none => trivial
    | some l2 =>
     have h2 := sWant_len kNull _ l2 hq
     have hw2 := sWant_ws kNull (sTake_ws kNot (st := some r) hr)
     rw [hq] at hw2
     have hx : hgt (bif sIs kNot (some r) then mkX 16 [mkX 17 [x] t.2.2.2.1] t.2.2.2.1 else mkX 17 [x] t.2.2.2.1) ≤ 2 + hgt x := by
      cases sIs kNot (some r)
      · show hgt (mkX 17 [x] t.2.2.2.1) ≤ _; rw [hgt_mkX, hgtL_one]; omega
      · show hgt (mkX 16 [mkX 17 [x] t.2.2.2.1] t.2.2.2.1) ≤ _; rw [hgt_mkX, hgtL_one, hgt_mkX, hgtL_one]; omega
     simp only [lenS_some, List.length_cons] at h2 hl a1 b1
     exact ⟨hw2, by omega, by omega⟩
theorem not_tot {L : Nat} {Z : ZS} {d : Int} (h : Tot L (Z.ex 3 d)) (hn : d < 64 → Tot L (Z.nt (d + 1))) : Tot L (notS Z d) := by
 intro st hw hL
 cases st with
 | none => exact test_tot h none hw hL
 | some l =>
  obtain ⟨t, r, rfl⟩ := Wt.cons hw
  simp only [notS]
  cases ht : isTok kNot t
  · rw [if_neg (by simp)]; exact test_tot h _ hw hL
  · rw [if_pos rfl]
    obtain ⟨x, st1, e1, p1, _⟩ := within_tot hn (some r) (Wt.tok hw ht) (by simp only [lenS_some, List.length_cons] at hL ⊢; omega)
    exact ⟨mkX 16 [x] t.2.2.2.1, st1, by rw [e1]; rfl, p1.up (by simp [lenS]) (by rw [hgt_mkX, hgtL_one]; omega), fun h => by cases h⟩
theorem loop_tot {L : Nat} {Z : ZS} {lv d : Int} (h : Tot L (Z.ex (lv + 1) d)) : ∀ (n : Nat) (x : Ex) (st : PS) (l0 : Nat), lenS st < n → lenS st < L → WS st → Post l0 x st → ∃ y st', loopS Z lv d n x st = some (y, st') ∧ Post l0 y st' ∧ (st = none → st' = none)
 | 0, _, _, _, hn, _, _, _ => absurd hn (Nat.not_lt_zero _)
 | n + 1, x, st, l0, hn, hL, hw, hp => by
  unfold loopS
  cases st with
  | none => exact ⟨_, _, rfl, trivial, fun _ => rfl⟩
  | some l =>
   obtain ⟨t, r, rfl⟩ := Wt.cons hw
   dsimp only
   by_cases ho : opOf lv t.1 t.2.1 = 0
   · rw [if_pos ho]; exact ⟨_, _, rfl, hp, fun h => by cases h⟩
   · rw [if_neg ho]
     obtain ⟨y, st2, e2, p2, n2⟩ := h (some r) (Wt.tl hw (by rcases op_kind ho with h | h <;> omega)) (by simp only [lenS_some, List.length_cons] at hL ⊢; omega)
     rw [e2, bind_some']
     obtain ⟨w1, a1, b1⟩ := hp
     have p3 : Post l0 (mkX (opOf lv t.1 t.2.1) [x, y] t.2.2.2.1) st2 := by
      cases st2 with
      | none => trivial
      | some l2 =>
       obtain ⟨w2, a2, b2⟩ := p2
       simp only [lenS_some, List.length_cons] at a2 b2 a1 b1
       exact ⟨w2, by omega, by rw [hgt_mkX, hgtL_two]; omega⟩
     have hl2 : lenS st2 < n := by
      cases st2 with
      | none => simp only [lenS_some, List.length_cons] at hn; show 0 < n; omega
      | some l2 => have := p2.2.1; simp only [lenS_some, List.length_cons] at this hn ⊢; omega
     obtain ⟨z, st3, e3, p4, n3⟩ := loop_tot h n _ st2 l0 hl2 (by have := p2.len; simp only [lenS_some, List.length_cons] at this hL; omega) p2.ws p3
     exact ⟨z, st3, e3, p4, fun h => by cases h⟩
theorem expr_tot {L : Nat} {Z : ZS} {N : Nat} {lv d : Int} (hN : L ≤ N) (h2 : lv = 2 → Tot L (Z.ex 3 d) ∧ (d < 64 → Tot L (Z.nt (d + 1)))) (h5 : lv = 5 → (d < 64 → Tot L (Z.wh (d + 1))) ∧ (d < 64 → Tot L (Z.sg (d + 1))))
 (h : lv ≠ 2 → lv ≠ 5 → Tot L (Z.ex (lv + 1) d)) : Tot L (exprS N Z lv d) := by
 intro st hw hL
 unfold exprS
 by_cases k2 : lv = 2
 · rw [if_pos k2]; exact not_tot (h2 k2).1 (h2 k2).2 st hw hL
 rw [if_neg k2]
 by_cases k5 : lv = 5
 · rw [if_pos k5]; exact sign_tot (h5 k5).1 (h5 k5).2 st hw hL
 rw [if_neg k5]
 obtain ⟨x, st1, e1, p1, n1⟩ := h k2 k5 st hw hL
 rw [e1, bind_some']
 have hl := p1.len
 obtain ⟨y, st2, e2, p2, n2⟩ := loop_tot (h k2 k5) N x st1 (lenS st) (by omega) (by omega) p1.ws p1
 exact ⟨y, st2, e2, p2, fun hs => n2 (n1 hs)⟩
theorem z_tot (N : Nat) : ∀ n : Nat, (∀ lv d : Int, 0 ≤ lv → lv ≤ 5 → 0 ≤ d → d ≤ 64 → 10 * (64 - d) + (6 - lv) ≤ n → Tot N ((zAt N n).ex lv d)) ∧
 (∀ d : Int, 0 ≤ d → d ≤ 64 → 10 * (64 - d) + 6 ≤ n → Tot N ((zAt N n).wh d)) ∧ (∀ d : Int, 0 ≤ d → d ≤ 64 → 10 * (64 - d) + 4 ≤ n → Tot N ((zAt N n).nt d)) ∧ (∀ d : Int, 0 ≤ d → d ≤ 64 → 10 * (64 - d) + 1 ≤ n → Tot N ((zAt N n).sg d))
 | 0 => ⟨fun lv d _ _ _ _ h => by omega, fun d _ _ h => by omega, fun d _ _ h => by omega, fun d _ _ h => by omega⟩
 | n + 1 => by
  obtain ⟨he, hw, hn, hs⟩ := z_tot N n
  have ex : ∀ lv d : Int, 0 ≤ lv → lv ≤ 5 → 0 ≤ d → d ≤ 64 → 10 * (64 - d) + (6 - lv) ≤ ((n + 1 : Nat) : Int) → Tot N (exprS N (zAt N n) lv d) := by
   intro lv d h0 h1 h2 h3 h4
   refine expr_tot (Nat.le_refl _) (fun k => ⟨he 3 d (by decide) (by decide) h2 h3 (by omega), fun hd => hn (d + 1) (by omega) (by omega) (by omega)⟩) (fun k => ⟨fun hd => hw (d + 1) (by omega) (by omega) (by omega), fun hd => hs (d + 1) (by omega) (by omega) (by omega)⟩)
    fun k2 k5 => he (lv + 1) d (by omega) (by omega) h2 h3 (by omega)
  refine ⟨ex, fun d h0 h1 h2 => ex 0 d (by decide) (by decide) h0 h1 (by omega), fun d h0 h1 h2 => ?_, fun d h0 h1 h2 => ?_⟩
  · exact not_tot (he 3 d (by decide) (by decide) h0 h1 (by omega)) fun hd => hn (d + 1) (by omega) (by omega) (by omega)
  · exact sign_tot (fun hd => hw (d + 1) (by omega) (by omega) (by omega)) fun hd => hs (d + 1) (by omega) (by omega) (by omega)
theorem whole_tot (N : Nat) (hN : 1000 ≤ N) : Tot N (wholeS N (zAt N N) 0) := by
 obtain ⟨he, hw, hn, hs⟩ := z_tot N N
 exact expr_tot (Nat.le_refl _) (fun k => by cases k) (fun k => by cases k) fun _ _ => he 1 0 (by decide) (by decide) (by decide) (by decide) (by omega)
end Go.Proofs.YtbikfekdakigiaaGreatDoor.E
