/-
  Plain laws of the pure functions.
  Conditions: those that each statement prints, and no other.
-/
import Derived.Test.YtbikfekdakigiaaGreatDoorPParP
set_option linter.unusedVariables false
set_option linter.unusedSimpArgs false
namespace Go.Proofs.YtbikfekdakigiaaGreatDoor.E
open Go.Ev
theorem isNil_nil : Err.nil.isNil = true := rfl
def Wt : List Tk → Prop
 | [] => False
 | t :: r => t.1 = 6 ∨ Wt r
theorem Wt.tl {t : Tk} {r : List Tk} (h : Wt (t :: r)) (h6 : t.1 ≠ 6) : Wt r := h.resolve_left h6
theorem Wt.cons {l : List Tk} (h : Wt l) : ∃ t r, l = t :: r := by
 cases l with
 | nil => exact h.elim
 | cons t r => exact ⟨t, r, rfl⟩
theorem isTok_kind {s : List UInt8} {t : Tk} (h : isTok s t = true) : t.1 = 1 ∨ t.1 = 5 := by
 simp [isTok] at h; exact h.1
theorem Wt.tok {s : List UInt8} {t : Tk} {r : List Tk} (h : Wt (t :: r)) (ht : isTok s t = true) : Wt r := h.tl (by rcases isTok_kind ht with h | h <;> omega)
abbrev PS := Option (List Tk)
abbrev PRes := Option (Ex × PS)
def Rep (st : PS) (l : List Tk) (e : Err) : Prop := match st with
 | some l' => l = l' ∧ e = .nil ∧ Wt l
 | none => e.isNil = false ∧ l ≠ []
theorem Rep.ok {l : List Tk} (h : Wt l) : Rep (some l) l .nil := ⟨rfl, rfl, h⟩
theorem Rep.bad {l : List Tk} {e : Err} (h : e.isNil = false) (hl : l ≠ []) : Rep none l e := ⟨h, hl⟩
def RelR (p : Option Q1t) (r : PRes) (d : Int) : Prop := match r with
 | none => True
 | some (x, st) => ∃ l e, p = some (q x l d e) ∧ Rep st l e
theorem RelR.bind {p : Option Q1t} {r : PRes} {d d' : Int} (h : RelR p r d) {g : Q1t → Option Q1t} {s : Ex → PS → PRes} (hg : ∀ x st l e, Rep st l e → RelR (g (q x l d e)) (s x st) d') : RelR (p.bind g) (r.bind fun y => s y.1 y.2) d' := by
 cases r with
 | none => trivial
 | some y =>
  obtain ⟨x, st⟩ := y
  obtain ⟨l, e, hp, hr⟩ := h
  rw [hp, bind_some']
  exact hg x st l e hr
def z0 : Ex := Ex.mk 0 0 0 [] [] [] 0 [] 0 0
def sIs (s : List UInt8) : PS → Bool
 | some (t :: _) => isTok s t
 | _ => false
def sTl : PS → PS
 | some (_ :: r) => some r
 | st => st
def sTake (s : List UInt8) (st : PS) : PS := bif sIs s st then sTl st else st
def sWant (s : List UInt8) (st : PS) : PS := bif sIs s st then sTl st else none
def sName : PS → List UInt8 × PS
 | some (t :: r) => if t.1 = 1 ∧ t.2.1 ∉ resv then (t.2.1, some r) else ([], none)
 | _ => ([], none)
theorem is_st (N : Nat) (s : List UInt8) {st : PS} {l : List Tk} {e : Err} (d : Int) (h : Rep st l e) : pq_is N s l d e = some (sIs s st, ()) := by
 cases st with
 | none =>
  obtain ⟨he, hl⟩ := h
  obtain ⟨t, r, rfl⟩ := List.exists_cons_of_ne_nil hl
  exact is_bad N s t r d he
 | some l' =>
  obtain ⟨rfl, rfl, hw⟩ := h
  obtain ⟨t, r, rfl⟩ := hw.cons
  exact is_nil N s t r d
theorem take_st (N : Nat) (s : List UInt8) {st : PS} {l : List Tk} {e : Err} (d : Int) (h : Rep st l e) : ∃ l' e', pq_take N s l d e = some (sIs s st, l', d, e', ()) ∧ Rep (sTake s st) l' e' := by
 cases st with
 | none =>
  obtain ⟨he, hl⟩ := h
  obtain ⟨t, r, rfl⟩ := List.exists_cons_of_ne_nil hl
  exact ⟨_, _, take_bad N s t r d he, .bad he hl⟩
 | some l' =>
  obtain ⟨rfl, rfl, hw⟩ := h
  obtain ⟨t, r, rfl⟩ := hw.cons
  refine ⟨_, _, take_nil N s t r d, ?_⟩
  simp only [sTake, sIs, sTl]
  cases ht : isTok s t
  · exact .ok hw
  · exact .ok (hw.tok ht)
theorem want_st (N : Nat) (hN : ∃ f, N = f + 2) (s : List UInt8) {st : PS} {l : List Tk} {e : Err} (d : Int) (h : Rep st l e) : ∃ l' e', pq_want N [s] l d e = some (l', d, e', ()) ∧ Rep (sWant s st) l' e' := by
 cases st with
 | none =>
  obtain ⟨he, hl⟩ := h
  obtain ⟨t, r, rfl⟩ := List.exists_cons_of_ne_nil hl
  exact ⟨_, _, want_bad N hN s t r d he, .bad he hl⟩
 | some l' =>
  obtain ⟨rfl, rfl, hw⟩ := h
  obtain ⟨t, r, rfl⟩ := hw.cons
  rw [want_nil N hN s t r d]
  simp only [sWant, sIs, sTl]
  cases ht : isTok s t
  · exact ⟨_, _, rfl, .bad rfl (by simp)⟩
  · exact ⟨_, _, rfl, .ok (hw.tok ht)⟩
theorem name_st (N : Nat) (hN : 1000 ≤ N) {st : PS} {l : List Tk} {e : Err} (d : Int) (h : Rep st l e) : ∃ l' e', pq_name N l d e = some ((sName st).1, l', d, e', ()) ∧ Rep (sName st).2 l' e' := by
 cases st with
 | none =>
  obtain ⟨he, hl⟩ := h
  exact ⟨_, _, name_bad N l d he, .bad he hl⟩
 | some l' =>
  obtain ⟨rfl, rfl, hw⟩ := h
  obtain ⟨t, r, rfl⟩ := hw.cons
  rw [name_nil N hN t r d]
  simp only [sName]
  split
  · rename_i h1; exact ⟨_, _, rfl, .ok (hw.tl (by omega))⟩
  · exact ⟨_, _, rfl, .bad rfl (by simp)⟩
theorem fail_st (N : Nat) (c : Int) (hc : c ≠ 0) {st : PS} {l : List Tk} {e : Err} (d : Int) (h : Rep st l e) : ∃ l' e', pq_fail N c l d e = some (l', d, e', ()) ∧ Rep none l' e' := by
 cases st with
 | none => obtain ⟨he, hl⟩ := h; exact ⟨_, _, fail_bad N c l d he, .bad he hl⟩
 | some l' =>
  obtain ⟨rfl, rfl, hw⟩ := h
  obtain ⟨t, r, rfl⟩ := hw.cons
  exact ⟨_, _, fail_nil N c hc t r d, .bad rfl (by simp)⟩
theorem bind_id (r : PRes) : (r.bind fun y => some (y.1, y.2)) = r := by cases r <;> rfl
structure ZS where
 nt : Int → PS → PRes
 sg : Int → PS → PRes
 ex : Int → Int → PS → PRes
 wh : Int → PS → PRes
def withinS (f : Int → PS → PRes) (d : Int) (st : PS) : PRes := match st with
 | none => some (z0, none)
 | some l => if 64 ≤ d then some (z0, none) else f (d + 1) (some l)
def mkX (op : Int) (kids : List Ex) (at_ : Int) : Ex := Ex.mk op 0 0 [] [] [] 0 kids 0 at_
def kIs : List UInt8 := [105, 115]
def kNot : List UInt8 := [110, 111, 116]
def kNull : List UInt8 := [110, 117, 108, 108]
def testS (Z : ZS) (d : Int) (st : PS) : PRes := (Z.ex 3 d st).bind fun y => match y.2 with
 | some (t :: r) =>
  if isTok kIs t then
   let n := sIs kNot (some r)
   let st3 := sWant kNull (sTake kNot (some r))
   let x := mkX 17 [y.1] t.2.2.2.1
   some (bif n then mkX 16 [x] t.2.2.2.1 else x, st3)
  else if t.1 = 5 ∧ cmpOp t.2.1 ≠ 0 then (Z.ex 3 d (some r)).bind fun z => some (mkX (cmpOp t.2.1) [y.1, z.1] t.2.2.2.1, z.2)
  else some y
 | _ => some y
def notS (Z : ZS) (d : Int) (st : PS) : PRes := match st with
 | some (t :: r) => if isTok kNot t then (withinS Z.nt d (some r)).bind fun y => some (mkX 16 [y.1] t.2.2.2.1, y.2) else testS Z d (some (t :: r))
 | st => testS Z d st
def innerS (Z : ZS) (d : Int) (st : PS) : PRes := (withinS Z.wh d (sWant [40] st)).bind fun y => some (y.1, sWant [41] y.2)
def wordS (Z : ZS) (d : Int) (t : Tk) (r : List Tk) : PRes :=
 let at_ := t.2.2.2.1
 let agg (op : Int) : PRes := (innerS Z d (some r)).bind fun y => some (mkX op [y.1] at_, y.2)
 if t.2.1 = [116, 114, 117, 101] then some (Ex.mk 1 1 1 t.2.2.1.2.2.1 [] [] 0 [] 0 at_, some r)
 else if t.2.1 = [102, 97, 108, 115, 101] then some (Ex.mk 1 1 t.2.2.1.2.1 t.2.2.1.2.2.1 [] [] 0 [] 0 at_, some r)
 else if t.2.1 = [110, 117, 108, 108] then some (Ex.mk 1 t.2.2.1.1 t.2.2.1.2.1 t.2.2.1.2.2.1 [] [] 0 [] 0 at_, some r)
 else if t.2.1 = [99, 111, 117, 110, 116] then
  match r with
  | a :: b :: c => if a.1 = 5 ∧ a.2.1 = [40] ∧ b.1 = 5 ∧ b.2.1 = [42] then some (mkX 18 [] at_, sWant [41] (some c)) else agg 18
  | _ => agg 18
 else if t.2.1 = [115, 117, 109] then agg 19
 else if t.2.1 = [109, 105, 110] then agg 20
 else if t.2.1 = [109, 97, 120] then agg 21
 else
  let n := sName (some (t :: r))
  if sIs [46] n.2 then let m := sName (sTake [46] n.2); some (Ex.mk 2 0 0 [] n.1 m.1 0 [] 0 at_, m.2)
  else some (Ex.mk 2 0 0 [] [] n.1 0 [] 0 at_, sTake [46] n.2)
def oneS (Z : ZS) (d : Int) (st : PS) : PRes := match st with
 | some (t :: r) =>
  if t.1 = 2 ∨ t.1 = 3 ∨ t.1 = 4 then some (Ex.mk 1 t.2.2.1.1 t.2.2.1.2.1 t.2.2.1.2.2.1 [] [] 0 [] 0 t.2.2.2.1, some r)
  else if t.1 = 5 then (if t.2.1 = [40] then innerS Z d (some (t :: r)) else some (z0, none))
  else if t.1 = 1 then wordS Z d t r
  else some (z0, none)
 | _ => some (z0, none)
def signS (Z : ZS) (d : Int) (st : PS) : PRes := match st with
 | some (t :: r) => if isTok [45] t then (withinS Z.sg d (some r)).bind fun y => some (mkX 7 [y.1] t.2.2.2.1, y.2) else oneS Z d (some (t :: r))
 | st => oneS Z d st
def loopS (Z : ZS) (lv d : Int) : Nat → Ex → PS → PRes
 | 0, _, _ => none
 | n + 1, x, st => match st with
  | some (t :: r) => if opOf lv t.1 t.2.1 = 0 then some (x, st) else (Z.ex (lv + 1) d (some r)).bind fun y => loopS Z lv d n (mkX (opOf lv t.1 t.2.1) [x, y.1] t.2.2.2.1) y.2
  | st => some (x, st)
def exprS (N : Nat) (Z : ZS) (lv d : Int) (st : PS) : PRes :=
 if lv = 2 then notS Z d st else if lv = 5 then signS Z d st else (Z.ex (lv + 1) d st).bind fun y => loopS Z lv d N y.1 y.2
def wholeS (N : Nat) (Z : ZS) (d : Int) (st : PS) : PRes := exprS N Z 0 d st
def zAt (N : Nat) : Nat → ZS
 | 0 => ⟨fun _ _ => none, fun _ _ => none, fun _ _ _ => none, fun _ _ => none⟩
 | n + 1 => ⟨notS (zAt N n), signS (zAt N n), exprS N (zAt N n), wholeS N (zAt N n)⟩
def Sim1 (g : List Tk → Int → Err → Option Q1t) (s : Int → PS → PRes) : Prop := ∀ d st l e, 0 ≤ d → d ≤ 64 → Rep st l e → RelR (g l d e) (s d st) d
structure SimZ (Z : Z_pq_whole) (S : ZS) : Prop where
 nt : Sim1 Z.r_pq_not S.nt
 sg : Sim1 Z.r_pq_sign S.sg
 ex : ∀ lv : Int, 0 ≤ lv → lv ≤ 5 → Sim1 (Z.r_pq_expr lv) (S.ex lv)
 wh : Sim1 Z.r_pq_whole S.wh
section
variable {Z : Z_pq_whole} {S : ZS} (N : Nat)
theorem within_sim (h : SimZ Z S) : Sim1 (pq_within_o N) (withinS S.nt) := by
 intro d st l e h0 h1 hr
 unfold pq_within_o pq_within_o_cps
 cases st with
 | none =>
  obtain ⟨he, hl⟩ := hr
  by_cases hd : 64 ≤ d
  · rw [if_t hd, fail_bad N 172 l d he, bind_some']
    dsimp only
    rw [cond_t (by simp [he])]
    exact ⟨_, _, rfl, .bad he hl⟩
  · rw [if_f hd, cond_t (by simp [he])]
    exact ⟨_, _, rfl, .bad he hl⟩
 | some l' =>
  have hr0 := hr
  obtain ⟨rfl, rfl, hw⟩ := hr
  obtain ⟨t, r, rfl⟩ := hw.cons
  simp only [withinS]
  by_cases hd : 64 ≤ d
  · rw [if_t hd, fail_nil N 172 (by decide), bind_some', if_pos hd]
    exact ⟨_, _, rfl, .bad rfl (by simp)⟩
  · rw [if_f hd, if_neg hd, isNil_nil, cnt, wrap_i64_id (x := d + 1) (by omega) (by omega)]
    have := h.nt (d + 1) (some (t :: r)) (t :: r) .nil (by omega) (by omega) (.ok hw)
    rw [← bind_id (S.nt (d + 1) (some (t :: r)))]
    refine RelR.bind this (s := fun x st => some (x, st)) ?_
    intro x st l e hr
    refine ⟨l, e, ?_, hr⟩
    show some (x.op, x.vk, x.vn, x.vs, x.tab, x.name, x.num, x.kids, x.kind, x.at_, l, IntKind.wrap .i64 (d + 1 - 1), e, ()) = _
    rw [wrap_i64_id (x := d + 1 - 1) (by omega) (by omega), show d + 1 - 1 = d by omega]; rfl
theorem within1_sim (h : SimZ Z S) : Sim1 (pq_within_1_o N) (withinS S.wh) := by
 intro d st l e h0 h1 hr
 unfold pq_within_1_o pq_within_1_o_cps
 cases st with
 | none =>
  obtain ⟨he, hl⟩ := hr
  by_cases hd : 64 ≤ d
  · rw [if_t hd, fail_bad N 172 l d he, bind_some']
    dsimp only
    rw [cond_t (by simp [he])]
    exact ⟨_, _, rfl, .bad he hl⟩
  · rw [if_f hd, cond_t (by simp [he])]
    exact ⟨_, _, rfl, .bad he hl⟩
 | some l' =>
  have hr0 := hr
  obtain ⟨rfl, rfl, hw⟩ := hr
  obtain ⟨t, r, rfl⟩ := hw.cons
  simp only [withinS]
  by_cases hd : 64 ≤ d
  · rw [if_t hd, fail_nil N 172 (by decide), bind_some', if_pos hd]
    exact ⟨_, _, rfl, .bad rfl (by simp)⟩
  · rw [if_f hd, if_neg hd, isNil_nil, cnt, wrap_i64_id (x := d + 1) (by omega) (by omega)]
    have := h.wh (d + 1) (some (t :: r)) (t :: r) .nil (by omega) (by omega) (.ok hw)
    rw [← bind_id (S.wh (d + 1) (some (t :: r)))]
    refine RelR.bind this (s := fun x st => some (x, st)) ?_
    intro x st l e hr
    refine ⟨l, e, ?_, hr⟩
    show some (x.op, x.vk, x.vn, x.vs, x.tab, x.name, x.num, x.kids, x.kind, x.at_, l, IntKind.wrap .i64 (d + 1 - 1), e, ()) = _
    rw [wrap_i64_id (x := d + 1 - 1) (by omega) (by omega), show d + 1 - 1 = d by omega]; rfl
theorem within2_sim (h : SimZ Z S) : Sim1 (pq_within_2_o N) (withinS S.sg) := by
 intro d st l e h0 h1 hr
 unfold pq_within_2_o pq_within_2_o_cps
 cases st with
 | none =>
  obtain ⟨he, hl⟩ := hr
  by_cases hd : 64 ≤ d
  · rw [if_t hd, fail_bad N 172 l d he, bind_some']
    dsimp only
    rw [cond_t (by simp [he])]
    exact ⟨_, _, rfl, .bad he hl⟩
  · rw [if_f hd, cond_t (by simp [he])]
    exact ⟨_, _, rfl, .bad he hl⟩
 | some l' =>
  have hr0 := hr
  obtain ⟨rfl, rfl, hw⟩ := hr
  obtain ⟨t, r, rfl⟩ := hw.cons
  simp only [withinS]
  by_cases hd : 64 ≤ d
  · rw [if_t hd, fail_nil N 172 (by decide), bind_some', if_pos hd]
    exact ⟨_, _, rfl, .bad rfl (by simp)⟩
  · rw [if_f hd, if_neg hd, isNil_nil, cnt, wrap_i64_id (x := d + 1) (by omega) (by omega)]
    have := h.sg (d + 1) (some (t :: r)) (t :: r) .nil (by omega) (by omega) (.ok hw)
    rw [← bind_id (S.sg (d + 1) (some (t :: r)))]
    refine RelR.bind this (s := fun x st => some (x, st)) ?_
    intro x st l e hr
    refine ⟨l, e, ?_, hr⟩
    show some (x.op, x.vk, x.vn, x.vs, x.tab, x.name, x.num, x.kids, x.kind, x.at_, l, IntKind.wrap .i64 (d + 1 - 1), e, ()) = _
    rw [wrap_i64_id (x := d + 1 - 1) (by omega) (by omega), show d + 1 - 1 = d by omega]; rfl
theorem inner_sim (hN : ∃ f, N = f + 2) (h : SimZ Z S) : Sim1 (pq_inner_o N) (innerS S) := by
 intro d st l e h0 h1 hr
 unfold pq_inner_o pq_inner_o_cps innerS
 obtain ⟨l1, e1, hw, hr1⟩ := want_st N hN [40] d hr
 rw [hw, bind_some']
 refine RelR.bind (within1_sim N h d _ l1 e1 h0 h1 hr1) (s := fun x st => some (x, sWant [41] st)) ?_
 intro x st2 l2 e2 hr2
 obtain ⟨l3, e3, hw3, hr3⟩ := want_st N hN [41] d hr2
 show RelR (Option.bind (pq_want N [[41]] l2 d e2) _) _ _
 rw [hw3, bind_some']
 exact ⟨_, _, rfl, hr3⟩
theorem test_sim (hN : ∃ f, N = f + 2) (h : SimZ Z S) : Sim1 (pq_test_o N) (testS S) := by
 intro d st l e h0 h1 hr
 unfold pq_test_o pq_test_o_cps testS
 refine RelR.bind (h.ex 3 (by decide) (by decide) d st l e h0 h1 hr) (s := fun x st => match st with
  | some (t :: r) =>
   if isTok kIs t then
    let n := sIs kNot (some r)
    let st3 := sWant kNull (sTake kNot (some r))
    let x := mkX 17 [x] t.2.2.2.1
    some (bif n then mkX 16 [x] t.2.2.2.1 else x, st3)
   else if t.1 = 5 ∧ cmpOp t.2.1 ≠ 0 then (S.ex 3 d (some r)).bind fun z => some (mkX (cmpOp t.2.1) [x, z.1] t.2.2.2.1, z.2)
   else some (x, st)
  | _ => some (x, st)) ?_
 intro x st l e hr
 cases st with
 | none =>
  have he := hr.1
  dsimp only [q]
  rw [he, cnf]
  exact ⟨_, _, rfl, hr⟩
 | some l' =>
  have hr0 := hr
  obtain ⟨rfl, rfl, hw⟩ := hr
  obtain ⟨t, r, rfl⟩ := hw.cons
  dsimp only [q]
  rw [isNil_nil, cnt, nth_zero, bind_some']
  show RelR (Option.bind (pq_take N kIs (t :: r) d .nil) _) _ _
  rw [take_nil, bind_some']
  cases ht : isTok kIs t
  · dsimp only
    rw [cf, cf, cmp_eq, bind_some']
    dsimp only
    rw [if_neg (by simp)]
    by_cases h5 : t.1 = 5
    · rw [if_t h5]
      by_cases hc : cmpOp t.2.1 = 0
      · rw [cond_f (by simp [hc]), if_neg (by simp [hc])]
        refine ⟨_, _, ?_, hr0⟩
        cases x; rfl
      · rw [cond_t (by simp [hc]), next_eq, bind_some', if_pos ⟨h5, hc⟩]
        unfold pq_test_o_r0
        dsimp only
        refine RelR.bind (h.ex 3 (by decide) (by decide) d (some r) r .nil h0 h1 (.ok (hw.tl (by omega)))) (s := fun z st => some (mkX (cmpOp t.2.1) [x, z] t.2.2.2.1, st)) ?_
        intro z st2 l2 e2 hr2
        refine ⟨_, _, ?_, hr2⟩
        cases x; cases z; rfl
    · rw [if_f h5, if_neg (by simp [h5])]
      refine ⟨_, _, ?_, hr0⟩
      cases x; rfl
  · dsimp only
    rw [ct, ct, if_pos rfl]
    obtain ⟨l2, e2, hw2, hr2⟩ := take_st N kNot d (Rep.ok (hw.tok ht))
    show RelR (Option.bind (pq_take N kNot r d .nil) _) _ _
    rw [hw2, bind_some']
    obtain ⟨l3, e3, hw3, hr3⟩ := want_st N hN kNull d hr2
    show RelR (Option.bind (pq_want N [kNull] l2 d e2) _) _ _
    rw [hw3, bind_some']
    dsimp only
    cases sIs kNot (some r)
    · refine ⟨_, _, ?_, hr3⟩
      cases x; rfl
    · refine ⟨_, _, ?_, hr3⟩
      cases x; rfl
theorem not_sim (hN : ∃ f, N = f + 2) (h : SimZ Z S) : Sim1 (pq_not_o N) (notS S) := by
 intro d st l e h0 h1 hr
 unfold pq_not_o pq_not_o_cps
 have test : ∀ st l e, Rep st l e → RelR (Option.bind (pq_test_o N l d e) fun v5 => some v5) (testS S d st) d := by
  intro st l e hr
  have := test_sim N hN h d st l e h0 h1 hr
  cases hp : pq_test_o N l d e with
  | none => rw [hp] at this; exact this
  | some t => rw [hp] at this; exact this
 show RelR (Option.bind (pq_is N kNot l d e) _) _ _
 rw [is_st N kNot d hr, bind_some']
 cases st with
 | none => exact test none l e hr
 | some l' =>
  have hr0 := hr
  obtain ⟨rfl, rfl, hw⟩ := hr
  obtain ⟨t, r, rfl⟩ := hw.cons
  simp only [notS, sIs]
  cases ht : isTok kNot t
  · rw [cnf, if_neg (by simp)]; exact test _ _ _ hr0
  · rw [cnt, if_pos rfl, next_eq, bind_some']
    dsimp only
    refine RelR.bind (within_sim N h d (some r) r .nil h0 h1 (.ok (hw.tok ht))) (s := fun x st => some (mkX 16 [x] t.2.2.2.1, st)) ?_
    intro x st2 l2 e2 hr2
    refine ⟨_, _, ?_, hr2⟩
    cases x; rfl
theorem agg_sim (hN : ∃ f, N = f + 2) (h : SimZ Z S) {t : Tk} {r : List Tk} {d : Int} (h0 : 0 ≤ d) (h1 : d ≤ 64) (hw : Wt (t :: r)) (h6 : t.1 ≠ 6) (op : Int) {g : Q1t → Option Q1t}
 (hg : ∀ x l e, g (q x l d e) = some (q (mkX op [x] t.2.2.2.1) l d e)) :
 RelR (Option.bind (pq_inner_o N r d .nil) g) ((innerS S d (some r)).bind fun y => some (mkX op [y.1] t.2.2.2.1, y.2)) d :=
 RelR.bind (inner_sim N hN h d (some r) r .nil h0 h1 (.ok (hw.tl h6))) (s := fun x st => some (mkX op [x] t.2.2.2.1, st)) fun x st l e hr => ⟨l, e, hg x l e, hr⟩
theorem word_sim (hN : 1000 ≤ N) (h : SimZ Z S) {t : Tk} {r : List Tk} {d : Int} (h0 : 0 ≤ d) (h1 : d ≤ 64) (hw : Wt (t :: r)) (hk : t.1 = 1) :
 RelR (pq_word_o N t.1 t.2.1 t.2.2.1.1 t.2.2.1.2.1 t.2.2.1.2.2.1 t.2.2.2.1 1 t.2.2.1.1 t.2.2.1.2.1 t.2.2.1.2.2.1 [] [] 0 [] 0 t.2.2.2.1 (t :: r) d .nil) (wordS S d t r) d := by
 have hN2 : ∃ f, N = f + 2 := ⟨N - 2, by omega⟩
 have hr := hw.tl (show t.1 ≠ 6 by omega)
 unfold pq_word_o pq_word_o_cps wordS
 by_cases k1 : t.2.1 = [116, 114, 117, 101]
 · rw [if_t k1, if_pos k1, next_eq, bind_some']; exact ⟨_, _, rfl, .ok hr⟩
 rw [if_f k1, if_neg k1]
 by_cases k2 : t.2.1 = [102, 97, 108, 115, 101]
 · rw [if_t k2, if_pos k2, next_eq, bind_some']; exact ⟨_, _, rfl, .ok hr⟩
 rw [if_f k2, if_neg k2]
 by_cases k3 : t.2.1 = [110, 117, 108, 108]
 · rw [if_t k3, if_pos k3, next_eq, bind_some']; exact ⟨_, _, rfl, .ok hr⟩
 rw [if_f k3, if_neg k3]
 by_cases k4 : t.2.1 = [99, 111, 117, 110, 116]
 · rw [if_t k4, if_pos k4]
   obtain ⟨a, r1, rfl⟩ := hr.cons
   rw [nth_one, bind_some']
   have agg : ∀ g : Q1t → Option Q1t, (∀ x l e, g (q x l d e) = some (q (mkX 18 [x] t.2.2.2.1) l d e)) → RelR (Option.bind (pq_inner_o N (a :: r1) d .nil) g) ((innerS S d (some (a :: r1))).bind fun y => some (mkX 18 [y.1] t.2.2.2.1, y.2)) d :=
    fun g hg => agg_sim N hN2 h h0 h1 hw (by omega) 18 hg
   by_cases a5 : a.1 = 5
   · obtain ⟨b, c, rfl⟩ := (hr.tl (show a.1 ≠ 6 by omega)).cons
     rw [if_t a5, bind_some']
     by_cases a40 : a.2.1 = [40]
     · rw [if_t a40, nth_two, bind_some']
       by_cases b5 : b.1 = 5
       · rw [if_t b5, bind_some']
         unfold pq_word_o_j0
         by_cases b42 : b.2.1 = [42]
         · rw [if_t b42, if_t (by simp; omega)]
           dsimp only
           rw [if_pos ⟨a5, a40, b5, b42⟩]
           have hc : Wt c := (hr.tl (show a.1 ≠ 6 by omega)).tl (by omega)
           obtain ⟨l2, e2, hw2, hr2⟩ := want_st N hN2 [41] d (Rep.ok hc)
           rw [show List.drop 3 (List.take (t :: a :: b :: c).length (t :: a :: b :: c)) = c by simp, hw2, bind_some']
           exact ⟨_, _, rfl, hr2⟩
         · rw [if_f b42]
           dsimp only
           rw [if_neg (by simp [b42]), next_eq, bind_some']
           exact agg _ fun x l e => by cases x; rfl
       · rw [if_f b5]
         unfold pq_word_o_j0
         dsimp only
         rw [cf, if_neg (by simp [b5]), next_eq, bind_some']
         exact agg _ fun x l e => by cases x; rfl
     · rw [if_f a40]
       unfold pq_word_o_j0
       dsimp only
       rw [cf, if_neg (by simp [a40]), next_eq, bind_some']
       exact agg _ fun x l e => by cases x; rfl
   · rw [if_f a5]
     unfold pq_word_o_j0
     dsimp only
     rw [cf, next_eq, bind_some']
     cases r1 with
     | nil => exact agg _ fun x l e => by cases x; rfl
     | cons b c =>
      dsimp only
      rw [if_neg (by simp [a5])]
      exact agg _ fun x l e => by cases x; rfl
 rw [if_f k4, if_neg k4]
 by_cases k5 : t.2.1 = [115, 117, 109]
 · rw [if_t k5, if_pos k5, next_eq, bind_some']
   exact agg_sim N hN2 h h0 h1 hw (by omega) 19 fun x l e => by cases x; rfl
 rw [if_f k5, if_neg k5]
 by_cases k6 : t.2.1 = [109, 105, 110]
 · rw [if_t k6, if_pos k6, next_eq, bind_some']
   exact agg_sim N hN2 h h0 h1 hw (by omega) 20 fun x l e => by cases x; rfl
 rw [if_f k6, if_neg k6]
 by_cases k7 : t.2.1 = [109, 97, 120]
 · rw [if_t k7, if_pos k7, next_eq, bind_some']
   exact agg_sim N hN2 h h0 h1 hw (by omega) 21 fun x l e => by cases x; rfl
 rw [if_f k7, if_neg k7]
 obtain ⟨l1, e1, hp1, hr1⟩ := name_st N hN d (Rep.ok hw)
 rw [hp1, bind_some']
 obtain ⟨l2, e2, hp2, hr2⟩ := take_st N [46] d hr1
 dsimp only
 rw [hp2, bind_some']
 dsimp only
 cases hs : sIs [46] (sName (some (t :: r))).2
 · rw [cf, if_neg (by simp)]
   exact ⟨_, _, rfl, hr2⟩
 · rw [ct, if_pos rfl]
   unfold pq_word_o_r1
   obtain ⟨l3, e3, hp3, hr3⟩ := name_st N hN d hr2
   rw [hp3, bind_some']
   exact ⟨_, _, rfl, hr3⟩
theorem one_sim (hN : 1000 ≤ N) (h : SimZ Z S) : Sim1 (pq_one_o N) (oneS S) := by
 intro d st l e h0 h1 hr
 have hN2 : ∃ f, N = f + 2 := ⟨N - 2, by omega⟩
 unfold pq_one_o pq_one_o_cps
 cases st with
 | none => rw [hr.1, cnf]; exact ⟨_, _, rfl, hr⟩
 | some l' =>
  have hr0 := hr
  obtain ⟨rfl, rfl, hw⟩ := hr
  obtain ⟨t, r, rfl⟩ := hw.cons
  rw [isNil_nil, cnt, nth_zero, bind_some']
  simp only [oneS]
  by_cases k2 : t.1 = 2
  · rw [if_t k2, if_pos (.inl k2), next_eq, bind_some']; exact ⟨_, _, rfl, .ok (hw.tl (by omega))⟩
  rw [if_f k2]
  by_cases k3 : t.1 = 3
  · rw [if_t k3, if_pos (.inr (.inl k3)), next_eq, bind_some']; exact ⟨_, _, rfl, .ok (hw.tl (by omega))⟩
  rw [if_f k3]
  by_cases k4 : t.1 = 4
  · rw [if_t k4, if_pos (.inr (.inr k4)), next_eq, bind_some']; exact ⟨_, _, rfl, .ok (hw.tl (by omega))⟩
  rw [if_f k4, if_neg (by omega)]
  have fail : RelR (Option.bind (pq_fail N 171 (t :: r) d .nil) fun v9 => some (0, 0, 0, [], [], [], 0, [], 0, 0, v9.1, v9.2.1, v9.2.2.1, ())) (some (z0, none)) d := by
   rw [fail_nil N 171 (by decide)]; exact ⟨_, _, rfl, .bad rfl (by simp)⟩
  by_cases k5 : t.1 = 5
  · rw [if_t k5, if_pos k5]
    by_cases k : t.2.1 = [40]
    · rw [if_t k, if_pos k]
      have := inner_sim N hN2 h d _ _ _ h0 h1 hr0
      cases hp : pq_inner_o N (t :: r) d .nil with
      | none => rw [hp] at this; exact this
      | some t => rw [hp] at this; exact this
    · rw [if_f k, if_neg k]; exact fail
  rw [if_f k5, if_neg k5]
  by_cases k1 : t.1 = 1
  · rw [if_t k1, if_pos k1]
    have := word_sim N hN h h0 h1 hw k1
    cases hp : pq_word_o N t.1 t.2.1 t.2.2.1.1 t.2.2.1.2.1 t.2.2.1.2.2.1 t.2.2.2.1 1 t.2.2.1.1 t.2.2.1.2.1 t.2.2.1.2.2.1 [] [] 0 [] 0 t.2.2.2.1 (t :: r) d .nil with
    | none => rw [hp] at this; exact this
    | some t => rw [hp] at this; exact this
  · rw [if_f k1, if_neg k1]; exact fail
theorem sign_sim (hN : 1000 ≤ N) (h : SimZ Z S) : Sim1 (pq_sign_o N) (signS S) := by
 intro d st l e h0 h1 hr
 unfold pq_sign_o pq_sign_o_cps
 have one : ∀ st l e, Rep st l e → RelR (Option.bind (pq_one_o N l d e) fun v5 => some v5) (oneS S d st) d := by
  intro st l e hr
  have := one_sim N hN h d st l e h0 h1 hr
  cases hp : pq_one_o N l d e with
  | none => rw [hp] at this; exact this
  | some t => rw [hp] at this; exact this
 rw [is_st N [45] d hr, bind_some']
 cases st with
 | none => exact one none l e hr
 | some l' =>
  have hr0 := hr
  obtain ⟨rfl, rfl, hw⟩ := hr
  obtain ⟨t, r, rfl⟩ := hw.cons
  simp only [signS, sIs]
  cases ht : isTok [45] t
  · rw [cnf, if_neg (by simp)]; exact one _ _ _ hr0
  · rw [cnt, if_pos rfl, next_eq, bind_some']
    dsimp only
    refine RelR.bind (within2_sim N h d (some r) r .nil h0 h1 (.ok (hw.tok ht))) (s := fun x st => some (mkX 7 [x] t.2.2.2.1, st)) ?_
    intro x st2 l2 e2 hr2
    refine ⟨_, _, ?_, hr2⟩
    cases x; rfl
theorem op_kind {lv k : Int} {s : List UInt8} (h : opOf lv k s ≠ 0) : k = 1 ∨ k = 5 := by
 unfold opOf at h
 split at h
 · assumption
 · exact absurd rfl h
theorem loop_sim (h : SimZ Z S) {lv d : Int} (hl0 : 0 ≤ lv) (hl1 : lv ≤ 4) (h0 : 0 ≤ d) (h1 : d ≤ 64) (k0 : List Tk → Int → Err → Int → Int → Int → List UInt8 → List UInt8 → List UInt8 → Int → Int → Int → Int → Int → Int → List UInt8 → List UInt8 → List UInt8 → Int → List Ex → Int → Int → Option Q1t)
 (hk : ∀ x l e a b c d1 e1 f g i j, k0 l d e a b c d1 e1 f g i j x.op x.vk x.vn x.vs x.tab x.name x.num x.kids x.kind x.at_ = some (q x l d e)) :
 ∀ (n : Nat) (x : Ex) (st : PS) (l : List Tk) (e : Err) (a b c : Int) (d1 e1 f : List UInt8) (g i j : Int), Rep st l e →
  RelR (pq_expr_o_l0 N Q1t k0 n lv l d e a b c d1 e1 f g i j x.op x.vk x.vn x.vs x.tab x.name x.num x.kids x.kind x.at_) (loopS S lv d n x st) d
 | 0, x, st, l, e, a, b, c, d1, e1, f, g, i, j, hr => trivial
 | n + 1, x, st, l, e, a, b, c, d1, e1, f, g, i, j, hr => by
  show RelR (pq_expr_o_l0B N Q1t (pq_expr_o_l0 N Q1t k0 n) k0 lv l d e a b c d1 e1 f g i j x.op x.vk x.vn x.vs x.tab x.name x.num x.kids x.kind x.at_) _ _
  unfold pq_expr_o_l0B loopS
  cases st with
  | none => rw [cond_f hr.1, hk]; exact ⟨_, _, rfl, hr⟩
  | some l' =>
   have hr0 := hr
   obtain ⟨rfl, rfl, hw⟩ := hr
   obtain ⟨t, r, rfl⟩ := hw.cons
   rw [isNil_nil, ct, nth_zero, bind_some', op_eq, bind_some']
   dsimp only
   by_cases ho : opOf lv t.1 t.2.1 = 0
   · rw [if_t ho, if_pos ho, hk]; exact ⟨_, _, rfl, hr0⟩
   · rw [if_f ho, if_neg ho, next_eq, bind_some']
     unfold pq_expr_o_r1
     dsimp only
     rw [wrap_i64_id (x := lv + 1) (by omega) (by omega)]
     refine RelR.bind (h.ex (lv + 1) (by omega) (by omega) d (some r) r .nil h0 h1 (.ok (hw.tl (by rcases op_kind ho with h | h <;> omega)))) (s := fun y st => loopS S lv d n (mkX (opOf lv t.1 t.2.1) [x, y] t.2.2.2.1) st) ?_
     intro y st2 l2 e2 hr2
     have := loop_sim h hl0 hl1 h0 h1 k0 hk n (mkX (opOf lv t.1 t.2.1) [x, y] t.2.2.2.1) st2 l2 e2 a b c d1 e1 f g i j hr2
     cases x; cases y; exact this
theorem expr_sim (hN : 1000 ≤ N) (h : SimZ Z S) (lv : Int) (hl0 : 0 ≤ lv) (hl1 : lv ≤ 5) : Sim1 (pq_expr_o N lv) (exprS N S lv) := by
 intro d st l e h0 h1 hr
 have hN2 : ∃ f, N = f + 2 := ⟨N - 2, by omega⟩
 unfold pq_expr_o pq_expr_o_cps exprS
 by_cases k2 : lv = 2
 · rw [if_t k2, if_pos k2]
   have := not_sim N hN2 h d st l e h0 h1 hr
   cases hp : pq_not_o N l d e with
   | none => rw [hp] at this; exact this
   | some t => rw [hp] at this; exact this
 rw [if_f k2, if_neg k2]
 by_cases k5 : lv = 5
 · rw [if_t k5, if_pos k5]
   have := sign_sim N hN h d st l e h0 h1 hr
   cases hp : pq_sign_o N l d e with
   | none => rw [hp] at this; exact this
   | some t => rw [hp] at this; exact this
 rw [if_f k5, if_neg k5, wrap_i64_id (x := lv + 1) (by omega) (by omega)]
 refine RelR.bind (h.ex (lv + 1) (by omega) (by omega) d st l e h0 h1 hr) (s := fun y st => loopS S lv d N y st) ?_
 intro x st2 l2 e2 hr2
 exact loop_sim N h hl0 (by omega) h0 h1 _ (fun x l e a b c d1 e1 f g i j => rfl) N x st2 l2 e2 0 0 0 [] [] [] 0 0 0 hr2
theorem whole_sim (hN : 1000 ≤ N) (h : SimZ Z S) : Sim1 (pq_whole_o N) (wholeS N S) := by
 intro d st l e h0 h1 hr
 unfold pq_whole_o pq_whole_o_cps
 have := expr_sim N hN h 0 (by decide) (by decide) d st l e h0 h1 hr
 cases hp : pq_expr_o N 0 l d e with
 | none => rw [hp] at this; exact this
 | some t => rw [hp] at this; exact this
end
theorem simZ (N : Nat) (hN : 1000 ≤ N) : ∀ n, SimZ (Z_pq_whole_at N n) (zAt N n)
 | 0 => ⟨fun _ _ _ _ _ _ _ => trivial, fun _ _ _ _ _ _ _ => trivial, fun _ _ _ _ _ _ _ _ _ _ => trivial, fun _ _ _ _ _ _ _ => trivial⟩
 | n + 1 => ⟨not_sim N ⟨N - 2, by omega⟩ (simZ N hN n), sign_sim N hN (simZ N hN n), fun lv h0 h1 => expr_sim N hN (simZ N hN n) lv h0 h1, whole_sim N hN (simZ N hN n)⟩
theorem parser_whole (N : Nat) (hN : 1000 ≤ N) : Sim1 (pq_whole N) (wholeS N (zAt N N)) := fun d st l e h0 h1 hr =>
 whole_sim N hN (simZ N hN N) d st l e h0 h1 hr
end Go.Proofs.YtbikfekdakigiaaGreatDoor.E
