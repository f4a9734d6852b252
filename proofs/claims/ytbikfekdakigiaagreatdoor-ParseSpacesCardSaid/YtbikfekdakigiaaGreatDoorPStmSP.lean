/-
  Plain laws of the pure functions.
  Conditions: those that each statement prints, and no other.
-/
import Derived.Test.YtbikfekdakigiaaGreatDoorPParTP
set_option linter.unusedVariables false
set_option linter.unusedSimpArgs false
namespace Go.Proofs.YtbikfekdakigiaaGreatDoor.E
open Go.Ev
set_option maxRecDepth 100000
abbrev Bs := List UInt8
abbrev SetT := Bs × (Ex × (Int × Unit))
abbrev OrdT := Ex × (Bool × Unit)
structure Stm where
 kind : Int
 table : Bs
 join : Bs
 on : Ex
 whr : Ex
 items : List Ex
 group : List Ex
 order : List OrdT
 limit : Int
 rows : List (List Ex)
 sets : List SetT
def stm0 (kind : Int) : Stm := ⟨kind, [], [], z0, z0, [], [], [], -1, [], []⟩
abbrev KSel (R : Type) := List Tk → Int → Err → Int → Bs → Bs → Int → Int → Int → Bs → Bs → Bs → Int → List Ex → Int → Int → Int → Int → Int → Bs → Bs → Bs → Int → List Ex → Int → Int → List Ex → List Ex → List OrdT → Int → Int → Option R
def kSel {R : Type} (k : KSel R) (s : Stm) (a : Int) (l : List Tk) (e : Err) : Option R :=
 k l 0 e s.kind s.table s.join s.on.op s.on.vk s.on.vn s.on.vs s.on.tab s.on.name s.on.num s.on.kids s.on.kind s.on.at_ s.whr.op s.whr.vk s.whr.vn s.whr.vs s.whr.tab s.whr.name s.whr.num s.whr.kids s.whr.kind s.whr.at_ s.items s.group s.order s.limit a
def wholeT (N : Nat) (st : PS) : Ex × PS := (wholeS N (zAt N N) 0 st).getD (z0, none)
def listL (N : Nat) : Nat → List Ex → PS → List Ex × PS
 | 0, acc, st => (acc, st)
 | n + 1, acc, st => if sIs [44] st = true then listL N n (acc ++ [(wholeT N (sTl st)).1]) (wholeT N (sTl st)).2 else (acc, st)
def listT (N : Nat) (st : PS) : List Ex × PS := listL N N [(wholeT N st).1] (wholeT N st).2
def whereT (N : Nat) (w : Bs) (st : PS) : Ex × PS := if sIs w st = true then wholeT N (sTl st) else (z0, st)
def kwSelect : Bs := [115, 101, 108, 101, 99, 116]
def kwInsert : Bs := [105, 110, 115, 101, 114, 116]
def kwUpdate : Bs := [117, 112, 100, 97, 116, 101]
def kwDelete : Bs := [100, 101, 108, 101, 116, 101]
def kwFrom : Bs := [102, 114, 111, 109]
def kwInto : Bs := [105, 110, 116, 111]
def kwValues : Bs := [118, 97, 108, 117, 101, 115]
def kwSet : Bs := [115, 101, 116]
def kwWhere : Bs := [119, 104, 101, 114, 101]
def kwJoin : Bs := [106, 111, 105, 110]
def kwOn : Bs := [111, 110]
def kwGroup : Bs := [103, 114, 111, 117, 112]
def kwBy : Bs := [98, 121]
def kwOrder : Bs := [111, 114, 100, 101, 114]
def kwAsc : Bs := [97, 115, 99]
def kwDesc : Bs := [100, 101, 115, 99]
def kwLimit : Bs := [108, 105, 109, 105, 116]
def limT (s : Stm) (st : PS) : Stm × PS := if sIs kwLimit st = true then (match sTl st with
 | some (t :: r) => if t.1 = 2 ∧ t.2.2.1.1 = 2 then ({ s with limit := t.2.2.1.2.1 }, some r) else (s, none)
 | _ => (s, none)) else (s, st)
def ordOne (N : Nat) (st : PS) : OrdT × PS :=
 let y := wholeT N st
 if sIs kwAsc y.2 = true then ((y.1, (false, ())), sTl y.2) else ((y.1, (sIs kwDesc y.2, ())), sTake kwDesc y.2)
def ordL (N : Nat) : Nat → List OrdT → PS → List OrdT × PS
 | 0, acc, st => (acc, st)
 | n + 1, acc, st => let y := ordOne N st
  if sIs [44] y.2 = true then ordL N n (acc ++ [y.1]) (sTl y.2) else (acc ++ [y.1], y.2)
def orderT (N : Nat) (s : Stm) (st : PS) : Stm × PS := if sIs kwOrder st = true then
 let y := ordL N (N - 1) [] (sWant kwBy (sTl st))
 limT { s with order := y.1 } y.2
 else limT { s with order := [] } st
def groupT (N : Nat) (s : Stm) (st : PS) : Stm × PS :=
 let w := whereT N kwWhere st
 if sIs kwGroup w.2 = true then
  let g := listT N (sWant kwBy (sTl w.2))
  orderT N { s with whr := w.1, group := g.1 } g.2
 else orderT N { s with whr := w.1, group := [] } w.2
def fromT (N : Nat) (s : Stm) (st : PS) : Stm × PS :=
 let n := sName (sWant kwFrom st)
 let s := { s with table := n.1 }
 if sIs kwJoin n.2 = true then
  let j := sName (sTl n.2)
  let o := wholeT N (sWant kwOn j.2)
  groupT N { s with join := j.1, on := o.1 } o.2
 else groupT N s n.2
def selT (N : Nat) (st : PS) : Stm × PS := if sIs [42] st = true then fromT N (stm0 1) (sTl st)
 else
  let l := listT N st
  fromT N { stm0 1 with items := l.1 } l.2
section
variable {N : Nat} (hN : 1200 ≤ N)
include hN
theorem whole_st {st : PS} {l : List Tk} {e : Err} (hL : lenS st < N) (h : Rep st l e) : ∃ l' e', pq_whole N l 0 e = some (q (wholeT N st).1 l' 0 e') ∧ Rep (wholeT N st).2 l' e' ∧ Post (lenS st) (wholeT N st).1 (wholeT N st).2 ∧ (st = none → (wholeT N st).2 = none) := by
 have hw : WS st := by
  cases st with
  | none => trivial
  | some l' => exact h.1 ▸ h.2.2
 obtain ⟨x, st', e1, p1, n1⟩ := whole_tot N (by omega) st hw hL
 have hs := parser_whole N (by omega) 0 st l e (by decide) (by decide) h
 have ew : wholeT N st = (x, st') := by unfold wholeT; rw [e1]; rfl
 rw [e1] at hs
 obtain ⟨l', e', h1, h2⟩ := hs
 rw [ew]
 exact ⟨l', e', h1, h2, p1, n1⟩
omit hN in
theorem tl_len {s : Bs} {st : PS} (h : sIs s st = true) : lenS (sTl st) + 1 = lenS st := by
 cases st with
 | none => cases h
 | some l =>
  cases l with
  | nil => cases h
  | cons t r => rfl
omit hN in
theorem sTake_t {s : Bs} {st : PS} (h : sIs s st = true) : sTake s st = sTl st := by unfold sTake; rw [h]; rfl
omit hN in
theorem sTake_f {s : Bs} {st : PS} (h : ¬ sIs s st = true) : sTake s st = st := by unfold sTake; rw [Bool.eq_false_iff.2 h]; rfl
omit hN in
theorem room_le {a n : Nat} (ha : a ≤ 144) (hn : n ≤ 10000) : room a n = true := by
 unfold room
 rw [decide_eq_true_iff]
 have : n * a ≤ 10000 * 144 := Nat.mul_le_mul hn ha
 omega
theorem list_loop {R : Type} {k0 : List Ex → List Tk → Int → Err → Option R} : ∀ (n : Nat) (acc : List Ex) (st : PS) (l : List Tk) (e : Err), lenS st < n → lenS st < N → acc.length + lenS st ≤ 2000 → Rep st l e →
 ∃ l' e', pq_list_l0 N R k0 n acc l 0 e = k0 (listL N n acc st).1 l' 0 e' ∧ Rep (listL N n acc st).2 l' e' ∧ (lenS (listL N n acc st).2 ≤ lenS st ∧ (listL N n acc st).1.length ≤ acc.length + lenS st) ∧ (∀ L, (∀ x ∈ acc, hgt x ≤ L) → 2 * lenS st ≤ L → ∀ x ∈ (listL N n acc st).1, hgt x ≤ L ∨ (listL N n acc st).2 = none)
 | 0, _, _, _, _, hn, _, _, _ => absurd hn (Nat.not_lt_zero _)
 | n + 1, acc, st, l, e, hn, hL, ha, hr => by
  show ∃ l' e', pq_list_l0B N R (pq_list_l0 N R k0 n) k0 acc l 0 e = _ ∧ _
  unfold pq_list_l0B listL
  obtain ⟨l1, e1, h1, r1⟩ := take_st N [44] 0 hr
  rw [h1, bind_some']
  dsimp only
  by_cases hs : sIs [44] st = true
  · rw [if_pos hs, hs, ct]
    rw [sTake_t hs] at r1
    have ht := tl_len hs
    obtain ⟨l2, e2, h2, r2, p2, _⟩ := whole_st hN (by omega) r1
    rw [h2, bind_some']
    dsimp only [q]
    rw [mk_eta, cond_t (room_le (by decide) (by simp; omega))]
    have hl := p2.len
    obtain ⟨l3, e3, h3, r3, ⟨q3, q4⟩, b3⟩ := list_loop n (acc ++ [(wholeT N (sTl st)).1]) _ l2 e2 (by omega) (by omega) (by simp; omega) r2
    refine ⟨l3, e3, h3, r3, ⟨by omega, by simp only [List.length_append, List.length_cons, List.length_nil] at q4; omega⟩, fun L hL1 hL2 x hx => ?_⟩
    cases hq : (wholeT N (sTl st)).2 with
    | none =>
     right
     clear h3 r3 q3 q4 b3 hx x
     cases n with
     | zero => rfl
     | succ n => rfl
    | some l4 =>
     rw [← hq]
     refine b3 L (fun y hy => ?_) (by omega) x hx
     rcases List.mem_append.1 hy with hy | hy
     · exact hL1 y hy
     · rw [List.mem_singleton.1 hy]
       rw [hq] at p2
       have := p2.2.2
       omega
  · rw [if_neg hs, Bool.eq_false_iff.2 hs, cf]
    rw [sTake_f hs] at r1
    exact ⟨l1, e1, rfl, r1, ⟨Nat.le_refl _, Nat.le_add_right _ _⟩, fun L hL1 _ x hx => .inl (hL1 x hx)⟩
theorem list_st {st : PS} {l : List Tk} {e : Err} (hL : lenS st ≤ 1100) (h : Rep st l e) : ∃ l' e', pq_list N l 0 e = some ((listT N st).1, (l', (0, (e', ())))) ∧ Rep (listT N st).2 l' e' ∧ (lenS (listT N st).2 ≤ lenS st ∧ (listT N st).1.length ≤ lenS st + 1) ∧ ∀ x ∈ (listT N st).1, hgt x ≤ 2 * lenS st ∨ (listT N st).2 = none := by
 obtain ⟨l1, e1, h1, r1, p1, _⟩ := whole_st hN (by omega) h
 have hl := p1.len
 unfold pq_list pq_list_cps listT
 rw [h1, bind_some']
 dsimp only [q]
 rw [mk_eta]
 obtain ⟨l2, e2, h2, r2, ⟨q2, q4⟩, b2⟩ := list_loop (R := List Ex × List Tk × Int × Err × Unit) (k0 := fun v5 v6 v7 v8 => some (v5, (v6, (v7, (v8, ()))))) hN N [(wholeT N st).1] _ l1 e1 (by omega) (by omega) (by simp; omega) r1
 refine ⟨l2, e2, h2, r2, ⟨by omega, by simp only [List.length_cons, List.length_nil] at q4; omega⟩, fun x hx => ?_⟩
 cases hq : (wholeT N st).2 with
 | none =>
  right
  cases N with
  | zero => rfl
  | succ n => rfl
 | some l4 =>
  rw [← hq]
  refine b2 (2 * lenS st) (fun y hy => ?_) (by omega) x hx
  rw [List.mem_singleton.1 hy]
  rw [hq] at p1
  have := p1.2.2
  omega
theorem where_st (w : Bs) {st : PS} {l : List Tk} {e : Err} (hL : lenS st ≤ 1100) (h : Rep st l e) : ∃ l' e', pq_where N w l 0 e = some (q (whereT N w st).1 l' 0 e') ∧ Rep (whereT N w st).2 l' e' ∧ lenS (whereT N w st).2 ≤ lenS st ∧ (hgt (whereT N w st).1 ≤ 2 * lenS st + 1 ∨ (whereT N w st).2 = none) := by
 unfold pq_where pq_where_cps whereT
 obtain ⟨l1, e1, h1, r1⟩ := take_st N w 0 h
 rw [h1, bind_some']
 dsimp only
 by_cases hs : sIs w st = true
 · rw [if_pos hs, hs, ct]
   rw [sTake_t hs] at r1
   have ht := tl_len hs
   obtain ⟨l2, e2, h2, r2, p2, _⟩ := whole_st hN (by omega) r1
   have := p2.len
   refine ⟨l2, e2, by rw [h2]; rfl, r2, by omega, ?_⟩
   cases hq : (wholeT N (sTl st)).2 with
   | none => exact .inr rfl
   | some l4 =>
    rw [hq] at p2
    have := p2.2.2
    exact .inl (by omega)
 · rw [if_neg hs, Bool.eq_false_iff.2 hs, cf]
   rw [sTake_f hs] at r1
   refine ⟨l1, e1, rfl, r1, Nat.le_refl _, .inl ?_⟩
   show hgt z0 ≤ _
   have : hgt z0 = 1 := hgt_leaf _ _ _ _ _ _ _ _ _
   omega
omit hN in
theorem lim_st {R : Type} {k : KSel R} {s : Stm} {a : Int} {st : PS} {l : List Tk} {e : Err} (h : Rep st l e) : ∃ l' e', pq_selects_j5 N R k k l 0 e s.kind s.table s.join s.on.op s.on.vk s.on.vn s.on.vs s.on.tab s.on.name s.on.num s.on.kids s.on.kind s.on.at_ s.whr.op s.whr.vk s.whr.vn s.whr.vs s.whr.tab s.whr.name s.whr.num s.whr.kids s.whr.kind s.whr.at_ s.items s.group s.order s.limit a = kSel k (limT s st).1 a l' e' ∧ Rep (limT s st).2 l' e' := by
 unfold pq_selects_j5 limT
 obtain ⟨l1, e1, h1, r1⟩ := take_st N kwLimit 0 h
 rw [show pq_take N [108, 105, 109, 105, 116] l 0 e = _ from h1, bind_some']
 dsimp only
 by_cases hs : sIs kwLimit st = true
 · rw [if_pos hs, hs, ct]
   rw [sTake_t hs] at r1
   have fail : ∀ {t : Tk} {r : List Tk} {e1 : Err}, e1 = .nil → ∃ l' e', (Option.bind (pq_fail N 171 (t :: r) 0 e1) fun v724 => k v724.1 v724.2.1 v724.2.2.1 s.kind s.table s.join s.on.op s.on.vk s.on.vn s.on.vs s.on.tab s.on.name s.on.num s.on.kids s.on.kind s.on.at_ s.whr.op s.whr.vk s.whr.vn s.whr.vs s.whr.tab s.whr.name s.whr.num s.whr.kids s.whr.kind s.whr.at_ s.items s.group s.order s.limit a) = kSel k s a l' e' ∧ Rep none l' e' := by
    intro t r e1 he
    subst he
    rw [fail_nil N 171 (by decide)]
    exact ⟨_, _, rfl, .bad rfl (by simp)⟩
   cases hst : sTl st with
   | none =>
    cases st with
    | none => cases hs
    | some l0 => cases l0 with
     | nil => cases hs
     | cons t r => cases hst
   | some l2 =>
    rw [hst] at r1
    obtain ⟨rfl, rfl, hw⟩ := r1
    obtain ⟨t, r, rfl⟩ := hw.cons
    rw [nth_zero, bind_some', isNil_nil, ct]
    dsimp only
    by_cases k2 : t.1 = 2
    · rw [if_t k2]
      by_cases k3 : t.2.2.1.1 = 2
      · rw [if_t k3, next_eq, bind_some', if_pos ⟨k2, k3⟩]
        exact ⟨_, _, rfl, .ok (hw.tl (by omega))⟩
      · rw [if_f k3, if_neg (by simp [k3])]; exact fail rfl
    · rw [if_f k2, if_neg (by simp [k2])]; exact fail rfl
 · rw [if_neg hs, Bool.eq_false_iff.2 hs, cf]
   rw [sTake_f hs] at r1
   exact ⟨l1, e1, rfl, r1⟩
end
end Go.Proofs.YtbikfekdakigiaaGreatDoor.E
