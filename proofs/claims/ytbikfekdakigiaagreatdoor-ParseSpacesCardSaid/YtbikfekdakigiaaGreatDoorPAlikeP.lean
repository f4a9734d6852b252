/-
  Plain laws of the pure functions.
  Conditions: those that each statement prints, and no other.
-/
import Derived.Test.YtbikfekdakigiaaGreatDoorPParTP
set_option linter.unusedVariables false
set_option linter.unusedSimpArgs false
namespace Go.Proofs.YtbikfekdakigiaaGreatDoor.E
open Go.Ev
inductive SmE : Ex → Ex → Prop
 | leaf {op vk vn num kind a a' : Int} {vs tab name : List UInt8} : SmE (Ex.mk op vk vn vs tab name num [] kind a) (Ex.mk op vk vn vs tab name num [] kind a')
 | one {op vk vn num kind a a' : Int} {vs tab name : List UInt8} {x x' : Ex} (h : SmE x x') : SmE (Ex.mk op vk vn vs tab name num [x] kind a) (Ex.mk op vk vn vs tab name num [x'] kind a')
 | two {op vk vn num kind a a' : Int} {vs tab name : List UInt8} {x x' y y' : Ex} (h : SmE x x') (h' : SmE y y') : SmE (Ex.mk op vk vn vs tab name num [x, y] kind a) (Ex.mk op vk vn vs tab name num [x', y'] kind a')
def TkE (t u : Tk) : Prop := t.1 = u.1 ∧ (t.1 = 1 ∨ t.1 = 5 → t.2.1 = u.2.1) ∧ t.2.2.1 = u.2.2.1
inductive LkE : List Tk → List Tk → Prop
 | nil : LkE [] []
 | cons {t u : Tk} {l m : List Tk} (h : TkE t u) (hl : LkE l m) : LkE (t :: l) (u :: m)
inductive StE : PS → PS → Prop
 | bad : StE none none
 | ok {l m : List Tk} (h : LkE l m) : StE (some l) (some m)
inductive RsE : PRes → PRes → Prop
 | none : RsE none none
 | some {x y : Ex} {s t : PS} (hx : SmE x y) (hs : StE s t) : RsE (some (x, s)) (some (y, t))
theorem RsE.bind {r r' : PRes} (h : RsE r r') {f g : Ex × PS → PRes} (hf : ∀ x y s t, SmE x y → StE s t → RsE (f (x, s)) (g (y, t))) : RsE (r.bind f) (r'.bind g) := by
 cases h with
 | none => exact .none
 | some hx hs => exact hf _ _ _ _ hx hs
theorem TkE.isTok {t u : Tk} (h : TkE t u) (s : List UInt8) : isTok s t = isTok s u := by
 obtain ⟨h1, h2, _⟩ := h
 unfold E.isTok
 rw [← h1]
 by_cases a : t.1 = 1
 · rw [h2 (.inl a)]
 · by_cases b : t.1 = 5
   · rw [h2 (.inr b)]
   · simp [a, b]
theorem TkE.opOf {t u : Tk} (h : TkE t u) (lv : Int) : opOf lv t.1 t.2.1 = opOf lv u.1 u.2.1 := by
 obtain ⟨h1, h2, _⟩ := h
 rw [← h1]
 by_cases a : t.1 = 1 ∨ t.1 = 5
 · rw [h2 a]
 · unfold E.opOf; rw [if_neg a, if_neg a]
theorem LkE.refl_ex {l m : List Tk} (h : LkE l m) : l.length = m.length := by
 induction h with
 | nil => rfl
 | cons _ _ ih => simp [ih]
theorem StE.is {s : List UInt8} {a b : PS} (h : StE a b) : sIs s a = sIs s b := by
 cases h with
 | bad => rfl
 | ok h => cases h with
  | nil => rfl
  | cons ht _ => exact ht.isTok s
theorem StE.tl {a b : PS} (h : StE a b) : StE (sTl a) (sTl b) := by
 cases h with
 | bad => exact .bad
 | ok h => cases h with
  | nil => exact .ok .nil
  | cons _ hl => exact .ok hl
theorem StE.take {s : List UInt8} {a b : PS} (h : StE a b) : StE (sTake s a) (sTake s b) := by
 unfold sTake
 rw [h.is]
 cases sIs s b
 · exact h
 · exact h.tl
theorem StE.want {s : List UInt8} {a b : PS} (h : StE a b) : StE (sWant s a) (sWant s b) := by
 unfold sWant
 rw [h.is]
 cases sIs s b
 · exact .bad
 · exact h.tl
theorem StE.name {a b : PS} (h : StE a b) : (sName a).1 = (sName b).1 ∧ StE (sName a).2 (sName b).2 := by
 cases h with
 | bad => exact ⟨rfl, .bad⟩
 | ok h => cases h with
  | nil => exact ⟨rfl, .bad⟩
  | @cons t u _ _ ht hl =>
   obtain ⟨h1, h2, _⟩ := ht
   simp only [sName]
   by_cases k : t.1 = 1
   · have e := h2 (.inl k)
     by_cases r : t.2.1 ∈ resv
     · rw [if_neg (by simp [r]), if_neg (by simp [← e, r])]; exact ⟨rfl, .bad⟩
     · rw [if_pos ⟨k, r⟩, if_pos ⟨h1 ▸ k, e ▸ r⟩]; exact ⟨e, .ok hl⟩
   · rw [if_neg (by simp [k]), if_neg (by simp [← h1, k])]; exact ⟨rfl, .bad⟩
theorem sm_leaf {op vk vn num kind a a' : Int} {vs tab name : List UInt8} : SmE (Ex.mk op vk vn vs tab name num [] kind a) (Ex.mk op vk vn vs tab name num [] kind a') := .leaf
theorem sm_z0 : SmE z0 z0 := .leaf
theorem sm_one {op a a' : Int} {x y : Ex} (h : SmE x y) : SmE (mkX op [x] a) (mkX op [y] a') := .one h
theorem sm_two {op a a' : Int} {x y x' y' : Ex} (h : SmE x y) (h' : SmE x' y') : SmE (mkX op [x, x'] a) (mkX op [y, y'] a') := .two h h'
def FnE (f g : PS → PRes) : Prop := ∀ a b, StE a b → RsE (f a) (g b)
structure ZE (Z Z' : ZS) : Prop where
 nt : ∀ d, FnE (Z.nt d) (Z'.nt d)
 sg : ∀ d, FnE (Z.sg d) (Z'.sg d)
 ex : ∀ lv d, FnE (Z.ex lv d) (Z'.ex lv d)
 wh : ∀ d, FnE (Z.wh d) (Z'.wh d)
theorem within_E {f g : Int → PS → PRes} (h : ∀ d, FnE (f d) (g d)) (d : Int) : FnE (withinS f d) (withinS g d) := by
 intro a b hab
 cases hab with
 | bad => exact .some sm_z0 .bad
 | ok hl =>
  simp only [withinS]
  by_cases k : 64 ≤ d
  · rw [if_pos k, if_pos k]; exact .some sm_z0 .bad
  · rw [if_neg k, if_neg k]; exact h _ _ _ (.ok hl)
section
variable {Z Z' : ZS} (h : ZE Z Z')
include h
theorem inner_E (d : Int) : FnE (innerS Z d) (innerS Z' d) := by
 intro a b hab
 exact (within_E h.wh d _ _ hab.want).bind fun x y s t hx hs => .some hx hs.want
theorem test_E (d : Int) : FnE (testS Z d) (testS Z' d) := by
 intro a b hab
 refine (h.ex 3 d _ _ hab).bind fun x y s t hx hs => ?_
 cases hs with
 | bad => exact .some hx .bad
 | ok hl =>
  cases hl with
  | nil => exact .some hx (.ok .nil)
  | @cons t u l m ht hl =>
   dsimp only
   rw [ht.isTok]
   by_cases k : isTok kIs u = true
   · rw [if_pos k, if_pos k]
     rw [(StE.ok hl).is (s := kNot)]
     refine .some ?_ ((StE.ok hl).take.want)
     cases sIs kNot (some m)
     · exact sm_one hx
     · exact sm_one (sm_one hx)
   · rw [if_neg k, if_neg k]
     obtain ⟨h1, h2, h3⟩ := ht
     by_cases k5 : t.1 = 5
     · have e := h2 (.inr k5)
       rw [← h1, ← e]
       by_cases kc : cmpOp t.2.1 = 0
       · rw [if_neg (by simp [kc]), if_neg (by simp [kc])]; exact .some hx (.ok (.cons ⟨h1, h2, h3⟩ hl))
       · rw [if_pos ⟨k5, kc⟩, if_pos ⟨k5, kc⟩]
         exact (h.ex 3 d _ _ (.ok hl)).bind fun x' y' s t hx' hs => .some (sm_two hx hx') hs
     · rw [if_neg (by simp [k5]), if_neg (by simp [← h1, k5])]; exact .some hx (.ok (.cons ⟨h1, h2, h3⟩ hl))
theorem not_E (d : Int) : FnE (notS Z d) (notS Z' d) := by
 intro a b hab
 cases hab with
 | bad => exact test_E h d _ _ .bad
 | ok hl =>
  cases hl with
  | nil => exact test_E h d _ _ (.ok .nil)
  | cons ht hl =>
   simp only [notS]
   rw [ht.isTok]
   split
   · exact (within_E h.nt d _ _ (.ok hl)).bind fun x y s t hx hs => .some (sm_one hx) hs
   · exact test_E h d _ _ (.ok (.cons ht hl))
theorem word_E (d : Int) {t u : Tk} {l m : List Tk} (ht : TkE t u) (hk : t.1 = 1) (hl : LkE l m) : RsE (wordS Z d t l) (wordS Z' d u m) := by
 have htt := ht
 obtain ⟨h1, h2, h3⟩ := ht
 have e := h2 (.inl hk)
 have agg : ∀ (op a a' : Int) {l m : List Tk}, LkE l m → RsE ((innerS Z d (some l)).bind fun y => some (mkX op [y.1] a, y.2)) ((innerS Z' d (some m)).bind fun y => some (mkX op [y.1] a', y.2)) :=
  fun op a a' l m hl => (inner_E h d _ _ (.ok hl)).bind fun x y s t hx hs => .some (sm_one hx) hs
 unfold wordS
 rw [← e, ← h3]
 split
 · exact .some .leaf (.ok hl)
 split
 · exact .some .leaf (.ok hl)
 split
 · exact .some .leaf (.ok hl)
 split
 · cases hl with
   | nil => exact agg 18 _ _ .nil
   | @cons a a' l m ha hl =>
    cases hl with
    | nil => exact agg 18 _ _ (.cons ha .nil)
    | @cons b b' l m hb hl =>
     dsimp only
     by_cases kb : a.1 = 5 ∧ a.2.1 = [40] ∧ b.1 = 5 ∧ b.2.1 = [42]
     · rw [if_pos kb, if_pos ⟨ha.1 ▸ kb.1, ha.2.1 (.inr kb.1) ▸ kb.2.1, hb.1 ▸ kb.2.2.1, hb.2.1 (.inr kb.2.2.1) ▸ kb.2.2.2⟩]
       exact .some .leaf (StE.ok hl).want
     · rw [if_neg kb, if_neg fun kc => kb ⟨ha.1.trans kc.1, (ha.2.1 (.inr (ha.1.trans kc.1))).trans kc.2.1, hb.1.trans kc.2.2.1, (hb.2.1 (.inr (hb.1.trans kc.2.2.1))).trans kc.2.2.2⟩]
       exact agg 18 _ _ (.cons ha (.cons hb hl))
 split
 · exact agg 19 _ _ hl
 split
 · exact agg 20 _ _ hl
 split
 · exact agg 21 _ _ hl
 have hn := (StE.ok (LkE.cons htt hl)).name
 dsimp only
 rw [← hn.2.is]
 split
 · have hm := (hn.2.take (s := [46])).name
   rw [hn.1, hm.1]
   exact .some .leaf hm.2
 · rw [hn.1]
   exact .some .leaf hn.2.take
theorem one_E (d : Int) : FnE (oneS Z d) (oneS Z' d) := by
 intro a b hab
 cases hab with
 | bad => exact .some sm_z0 .bad
 | ok hl =>
  cases hl with
  | nil => exact .some sm_z0 .bad
  | @cons t u l m ht hl =>
   have htt := ht
   obtain ⟨h1, h2, h3⟩ := ht
   simp only [oneS]
   rw [← h1, ← h3]
   split
   · exact .some .leaf (.ok hl)
   split
   · rename_i k5
     rw [← h2 (.inr k5)]
     split
     · exact inner_E h d _ _ (.ok (.cons htt hl))
     · exact .some sm_z0 .bad
   split
   · rename_i k1
     exact word_E h d htt k1 hl
   · exact .some sm_z0 .bad
theorem sign_E (d : Int) : FnE (signS Z d) (signS Z' d) := by
 intro a b hab
 cases hab with
 | bad => exact one_E h d _ _ .bad
 | ok hl =>
  cases hl with
  | nil => exact one_E h d _ _ (.ok .nil)
  | cons ht hl =>
   simp only [signS]
   rw [ht.isTok]
   split
   · exact (within_E h.sg d _ _ (.ok hl)).bind fun x y s t hx hs => .some (sm_one hx) hs
   · exact one_E h d _ _ (.ok (.cons ht hl))
theorem loop_E (lv d : Int) : ∀ (n : Nat) (x y : Ex), SmE x y → FnE (loopS Z lv d n x) (loopS Z' lv d n y)
 | 0, _, _, _ => fun _ _ _ => .none
 | n + 1, x, y, hx => by
  intro a b hab
  unfold loopS
  cases hab with
  | bad => exact .some hx .bad
  | ok hl =>
   cases hl with
   | nil => exact .some hx (.ok .nil)
   | cons ht hl =>
    dsimp only
    rw [← ht.opOf]
    split
    · exact .some hx (.ok (.cons ht hl))
    · exact (h.ex (lv + 1) d _ _ (.ok hl)).bind fun x' y' s t hx' hs => loop_E lv d n _ _ (sm_two hx hx') _ _ hs
theorem expr_E (N : Nat) (lv d : Int) : FnE (exprS N Z lv d) (exprS N Z' lv d) := by
 intro a b hab
 unfold exprS
 split
 · exact not_E h d _ _ hab
 split
 · exact sign_E h d _ _ hab
 · exact (h.ex (lv + 1) d _ _ hab).bind fun x y s t hx hs => loop_E h lv d N _ _ hx _ _ hs
end
theorem z_E (N : Nat) : ∀ n, ZE (zAt N n) (zAt N n)
 | 0 => ⟨fun _ _ _ _ => .none, fun _ _ _ _ => .none, fun _ _ _ _ _ => .none, fun _ _ _ _ => .none⟩
 | n + 1 => ⟨not_E (z_E N n), sign_E (z_E N n), expr_E (z_E N n) N, fun d => expr_E (z_E N n) N 0 d⟩
theorem whole_E (N : Nat) (d : Int) : FnE (wholeS N (zAt N N) d) (wholeS N (zAt N N) d) := expr_E (z_E N N) N 0 d
end Go.Proofs.YtbikfekdakigiaaGreatDoor.E
