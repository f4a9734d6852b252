/-
  Plain laws of the pure functions.
  Conditions: those that each statement prints, and no other.
-/
import Derived.Test.YtbikfekdakigiaaGreatDoorPStmS4P
import Derived.Test.YtbikfekdakigiaaGreatDoorPAlikeP
set_option linter.unusedVariables false
set_option linter.unusedSimpArgs false
namespace Go.Proofs.YtbikfekdakigiaaGreatDoor.E
open Go.Ev
inductive LsE : List Ex → List Ex → Prop
 | nil : LsE [] []
 | cons {x y : Ex} {l m : List Ex} (h : SmE x y) (hl : LsE l m) : LsE (x :: l) (y :: m)
theorem LsE.snoc {l m : List Ex} (h : LsE l m) {x y : Ex} (hx : SmE x y) : LsE (l ++ [x]) (m ++ [y]) := by
 induction h with
 | nil => exact .cons hx .nil
 | cons h _ ih => exact .cons h ih
structure SmS (s t : Stm) : Prop where
 kind : s.kind = t.kind
 table : s.table = t.table
 limit : s.limit = t.limit
 whr : SmE s.whr t.whr
 items : LsE s.items t.items
theorem sms0 (k : Int) : SmS (stm0 k) (stm0 k) := ⟨rfl, rfl, rfl, sm_z0, .nil⟩
section
variable {N : Nat}
theorem wholeT_E {a b : PS} (h : StE a b) : SmE (wholeT N a).1 (wholeT N b).1 ∧ StE (wholeT N a).2 (wholeT N b).2 := by
 have := whole_E N 0 a b h
 unfold wholeT
 generalize wholeS N (zAt N N) 0 a = r at *
 generalize wholeS N (zAt N N) 0 b = r' at *
 cases this with
 | none => exact ⟨sm_z0, .bad⟩
 | some hx hs => exact ⟨hx, hs⟩
theorem listL_E : ∀ (n : Nat) {l m : List Ex} {a b : PS}, LsE l m → StE a b → LsE (listL N n l a).1 (listL N n m b).1 ∧ StE (listL N n l a).2 (listL N n m b).2
 | 0, _, _, _, _, hl, h => ⟨hl, h⟩
 | n + 1, _, _, a, b, hl, h => by
  unfold listL
  rw [h.is]
  split
  · have := wholeT_E (N := N) h.tl
    exact listL_E n (hl.snoc this.1) this.2
  · exact ⟨hl, h⟩
theorem listT_E {a b : PS} (h : StE a b) : LsE (listT N a).1 (listT N b).1 ∧ StE (listT N a).2 (listT N b).2 := by
 have := wholeT_E (N := N) h
 exact listL_E N (.cons this.1 .nil) this.2
theorem whereT_E (w : Bs) {a b : PS} (h : StE a b) : SmE (whereT N w a).1 (whereT N w b).1 ∧ StE (whereT N w a).2 (whereT N w b).2 := by
 unfold whereT
 rw [h.is]
 split
 · exact wholeT_E h.tl
 · exact ⟨sm_z0, h⟩
theorem limT_E {s t : Stm} (hs : SmS s t) {a b : PS} (h : StE a b) : SmS (limT s a).1 (limT t b).1 ∧ StE (limT s a).2 (limT t b).2 := by
 unfold limT
 rw [h.is]
 split
 · have ht := h.tl
   generalize sTl a = a' at *
   generalize sTl b = b' at *
   cases ht with
   | bad => exact ⟨hs, .bad⟩
   | ok hl =>
    cases hl with
    | nil => exact ⟨hs, .bad⟩
    | cons h1 hl =>
     obtain ⟨e1, _, e3⟩ := h1
     dsimp only
     rw [e1, e3]
     split
     · exact ⟨⟨hs.kind, hs.table, rfl, hs.whr, hs.items⟩, .ok hl⟩
     · exact ⟨hs, .bad⟩
 · exact ⟨hs, h⟩
theorem ordOne_E {a b : PS} (h : StE a b) : StE (ordOne N a).2 (ordOne N b).2 := by
 have hw := (wholeT_E (N := N) h).2
 unfold ordOne
 dsimp only
 rw [hw.is]
 split
 · exact hw.tl
 · exact hw.take
theorem ordL_E : ∀ (n : Nat) {l m : List OrdT} {a b : PS}, StE a b → StE (ordL N n l a).2 (ordL N n m b).2
 | 0, _, _, _, _, h => h
 | n + 1, _, _, a, b, h => by
  have := ordOne_E (N := N) h
  unfold ordL
  dsimp only
  rw [this.is]
  split
  · exact ordL_E n this.tl
  · exact this
theorem orderT_E {s t : Stm} (hs : SmS s t) {a b : PS} (h : StE a b) : SmS (orderT N s a).1 (orderT N t b).1 ∧ StE (orderT N s a).2 (orderT N t b).2 := by
 unfold orderT
 rw [h.is]
 split
 · dsimp only
   refine limT_E ?_ (ordL_E _ h.tl.want)
   exact ⟨hs.kind, hs.table, hs.limit, hs.whr, hs.items⟩
 · refine limT_E ?_ h
   exact ⟨hs.kind, hs.table, hs.limit, hs.whr, hs.items⟩
theorem groupT_E {s t : Stm} (hs : SmS s t) {a b : PS} (h : StE a b) : SmS (groupT N s a).1 (groupT N t b).1 ∧ StE (groupT N s a).2 (groupT N t b).2 := by
 have hw := whereT_E (N := N) kwWhere h
 unfold groupT
 dsimp only
 rw [hw.2.is]
 split
 · refine orderT_E ?_ (listT_E hw.2.tl.want).2
   exact ⟨hs.kind, hs.table, hs.limit, hw.1, hs.items⟩
 · refine orderT_E ?_ hw.2
   exact ⟨hs.kind, hs.table, hs.limit, hw.1, hs.items⟩
theorem fromT_E {s t : Stm} (hs : SmS s t) {a b : PS} (h : StE a b) : SmS (fromT N s a).1 (fromT N t b).1 ∧ StE (fromT N s a).2 (fromT N t b).2 := by
 have hn := (h.want (s := kwFrom)).name
 unfold fromT
 dsimp only
 rw [hn.2.is]
 split
 · refine groupT_E ?_ (wholeT_E hn.2.tl.name.2.want).2
   exact ⟨hs.kind, hn.1, hs.limit, hs.whr, hs.items⟩
 · refine groupT_E ?_ hn.2
   exact ⟨hs.kind, hn.1, hs.limit, hs.whr, hs.items⟩
theorem selT_E {a b : PS} (h : StE a b) : SmS (selT N a).1 (selT N b).1 ∧ StE (selT N a).2 (selT N b).2 := by
 unfold selT
 rw [h.is]
 split
 · exact fromT_E (sms0 1) h.tl
 · have hl := listT_E (N := N) h
   refine fromT_E ?_ hl.2
   exact ⟨rfl, rfl, rfl, sm_z0, hl.1⟩
theorem insL_E : ∀ (n : Nat) {l m : List (List Ex)} {a b : PS}, StE a b → StE (insL N n l a).2 (insL N n m b).2
 | 0, _, _, _, _, h => h
 | n + 1, _, _, a, b, h => by
  have hw := h.want (s := [40])
  unfold insL
  generalize sWant [40] a = a' at *
  generalize sWant [40] b = b' at *
  cases hw with
  | bad => exact .bad
  | ok hl =>
   have h2 := (listT_E (N := N) (.ok hl)).2.want (s := [41])
   dsimp only
   rw [h2.is]
   split
   · exact insL_E n h2.tl
   · exact h2
theorem insT_E {a b : PS} (h : StE a b) : SmS (insT N a).1 (insT N b).1 ∧ StE (insT N a).2 (insT N b).2 := by
 have hn := (h.want (s := kwInto)).name
 exact ⟨⟨rfl, hn.1, rfl, sm_z0, .nil⟩, insL_E _ hn.2.want⟩
theorem updL_E : ∀ (n : Nat) {l m : List (Bs × Ex)} {a b : PS}, StE a b → StE (updL N n l a).2 (updL N n m b).2
 | 0, _, _, _, _, h => h
 | n + 1, _, _, a, b, h => by
  have hw := (wholeT_E (N := N) (h.name.2.want (s := [61]))).2
  unfold updL
  dsimp only
  rw [hw.is]
  split
  · exact updL_E n hw.tl
  · exact hw
theorem updT_E {a b : PS} (h : StE a b) : SmS (updT N a).1.1 (updT N b).1.1 ∧ StE (updT N a).2 (updT N b).2 := by
 have hn := h.name
 have hw := whereT_E (N := N) kwWhere (updL_E (N := N) (N - 1) (l := []) (m := []) (hn.2.want (s := kwSet)))
 exact ⟨⟨rfl, hn.1, rfl, hw.1, .nil⟩, hw.2⟩
theorem delT_E {a b : PS} (h : StE a b) : SmS (delT N a).1 (delT N b).1 ∧ StE (delT N a).2 (delT N b).2 := by
 have hn := (h.want (s := kwFrom)).name
 have hw := whereT_E (N := N) kwWhere hn.2
 exact ⟨⟨rfl, hn.1, rfl, hw.1, .nil⟩, hw.2⟩
theorem bodyT_E {a b : PS} (h : StE a b) : SmS (bodyT N a).1.1 (bodyT N b).1.1 ∧ StE (bodyT N a).2 (bodyT N b).2 := by
 unfold bodyT
 rw [h.is, h.is, h.is, h.is]
 repeat' split
 · exact selT_E h.tl
 · exact insT_E h.tl
 · exact updT_E h.tl
 · exact delT_E h.tl
 · exact ⟨sms0 0, .bad⟩
theorem endT6_E {a b : PS} (h : StE a b) : endT6 a = endT6 b := by
 cases h with
 | bad => rfl
 | ok hl =>
  cases hl with
  | nil => rfl
  | cons h _ => simp only [endT6, h.1]
theorem parseT_E {l m : List Tk} (h : LkE l m) {Z : Stm × List (Bs × Ex)} (hZ : parseT N l = some Z) : ∃ Y, parseT N m = some Y ∧ SmS Z.1 Y.1 := by
 have hb := bodyT_E (N := N) (.ok h)
 have he := endT6_E (hb.2.take (s := [59]))
 unfold parseT at hZ ⊢
 rw [he] at hZ
 split at hZ
 · rename_i k
   rw [if_pos k]
   cases hZ
   exact ⟨_, rfl, hb.1⟩
 · cases hZ
def Hi (l : List Ex) : Prop := (∀ x ∈ l, hgt x ≤ 4000) ∧ l.length ≤ 2000
def Hs (s : Stm) : Prop := Hi s.items ∧ hgt s.whr ≤ 4000
theorem hi_nil : Hi [] := ⟨fun x hx => (by cases hx), Nat.zero_le _⟩
theorem rep_of {st : PS} (hw : WS st) : ∃ l e, Rep st l e := by
 cases st with
 | none => exact ⟨[L.endT 0], .other, rfl, by simp⟩
 | some l => exact ⟨l, .nil, .ok hw⟩
theorem rep_ws {st : PS} {l : List Tk} {e : Err} (h : Rep st l e) : WS st := by
 cases st with
 | none => trivial
 | some l' => exact h.1 ▸ h.2.2
theorem tl_ws {s : Bs} {st : PS} (h : WS st) (hs : sIs s st = true) : WS (sTl st) := by
 have := sTake_ws s h
 rwa [sTake_t hs] at this
theorem name_ws {st : PS} (h : WS st) : WS (sName st).2 := by
 cases st with
 | none => trivial
 | some l =>
  cases l with
  | nil => exact h.elim
  | cons t r =>
   simp only [sName]
   split
   · rename_i k; exact Wt.tl h (by omega)
   · trivial
section
variable (hN : 1200 ≤ N)
include hN
theorem whole_none : (wholeT N none).2 = none := by
 obtain ⟨l, e, h⟩ := rep_of (st := none) trivial
 obtain ⟨_, _, _, _, _, hn⟩ := whole_st hN (by simp [lenS]; omega) h
 exact hn rfl
omit hN in
theorem lim_none {s : Stm} : (limT s none).2 = none := rfl
theorem list_none : (listT N none).2 = none := by
 unfold listT
 rw [whole_none hN]
 cases N <;> rfl
theorem ord_none : ∀ (n : Nat) (acc : List OrdT), (ordL N n acc none).2 = none
 | 0, _ => rfl
 | n + 1, acc => by
  have e : (ordOne N none).2 = none := by
   unfold ordOne
   dsimp only
   rw [whole_none hN]; rfl
  unfold ordL
  dsimp only
  rw [e]; rfl
omit hN in
theorem order_none {s : Stm} : (orderT N s none).2 = none := rfl
omit hN in
theorem group_none {s : Stm} : (groupT N s none).2 = none := rfl
omit hN in
theorem from_none {s : Stm} : (fromT N s none).2 = none := rfl
omit hN in
theorem lim_H {s : Stm} {st : PS} (h : Hs s) : Hs (limT s st).1 := by
 unfold limT; repeat' split
 all_goals exact h
omit hN in
theorem order_H {s : Stm} {st : PS} (h : Hs s) : Hs (orderT N s st).1 := by
 unfold orderT; split
 · exact lim_H h
 · exact lim_H h
theorem where_pl {st : PS} (hw : WS st) (hL : lenS st ≤ 1100) : WS (whereT N kwWhere st).2 ∧ lenS (whereT N kwWhere st).2 ≤ lenS st ∧ (hgt (whereT N kwWhere st).1 ≤ 4000 ∨ (whereT N kwWhere st).2 = none) := by
 obtain ⟨l, e, h⟩ := rep_of hw
 obtain ⟨_, _, _, h2, h3, h4⟩ := where_st hN kwWhere hL h
 exact ⟨rep_ws h2, h3, h4.imp (fun h => by omega) id⟩
theorem list_pl {st : PS} (hw : WS st) (hL : lenS st ≤ 1100) : WS (listT N st).2 ∧ lenS (listT N st).2 ≤ lenS st ∧ (Hi (listT N st).1 ∨ (listT N st).2 = none) := by
 obtain ⟨l, e, h⟩ := rep_of hw
 obtain ⟨_, _, _, h2, ⟨h3, h5⟩, h4⟩ := list_st hN hL h
 refine ⟨rep_ws h2, h3, ?_⟩
 by_cases k : (listT N st).2 = none
 · exact .inr k
 · exact .inl ⟨fun x hx => by have := (h4 x hx).resolve_right k; omega, by omega⟩
theorem group_H {s : Stm} {st : PS} (hi : Hi s.items) (hw : WS st) (hL : lenS st ≤ 1100) : (groupT N s st).2 = none ∨ Hs (groupT N s st).1 := by
 obtain ⟨_, _, h | h⟩ := where_pl hN hw hL
 · right
   unfold groupT; dsimp only; split
   · exact order_H ⟨hi, h⟩
   · exact order_H ⟨hi, h⟩
 · left
   unfold groupT; dsimp only; rw [h, if_neg (by simp [sIs])]; exact order_none
theorem from_H {s : Stm} {st : PS} (hi : Hi s.items) (hw : WS st) (hL : lenS st ≤ 1100) : (fromT N s st).2 = none ∨ Hs (fromT N s st).1 := by
 have w1 := sWant_ws kwFrom hw
 have l1 := sWant_le kwFrom st
 have w2 := name_ws w1
 have l2 := name_len (sWant kwFrom st)
 unfold fromT; dsimp only; split
 · rename_i hs
   have w3 := tl_ws w2 hs
   have l3 := tl_len hs
   have w4 := name_ws w3
   have l4 := name_len (sTl (sName (sWant kwFrom st)).2)
   have w5 := sWant_ws kwOn w4
   have l5 := sWant_le kwOn (sName (sTl (sName (sWant kwFrom st)).2)).2
   obtain ⟨l, e, h⟩ := rep_of w5
   obtain ⟨_, _, _, h2, p, _⟩ := whole_st hN (by omega) h
   have := p.len
   exact group_H hN (s := _) hi (rep_ws h2) (by omega)
 · exact group_H hN (s := _) hi w2 (by omega)
theorem sel_H {st : PS} (hw : WS st) (hL : lenS st ≤ 1100) : (selT N st).2 = none ∨ Hs (selT N st).1 := by
 unfold selT; split
 · rename_i hs
   have := tl_len hs
   exact from_H hN hi_nil (tl_ws hw hs) (by omega)
 · obtain ⟨h1, h2, h | h⟩ := list_pl hN hw hL
   · exact from_H hN h h1 (by omega)
   · left; dsimp only; rw [h]; exact from_none
omit hN in
theorem z0_H : hgt z0 ≤ 4000 := by
 have : hgt z0 = 1 := hgt_leaf _ _ _ _ _ _ _ _ _
 omega
theorem upd_H {st : PS} (hw : WS st) (hL : lenS st ≤ 1100) : (updT N st).2 = none ∨ Hs (updT N st).1.1 := by
 have w2 := name_ws hw
 have l2 := name_len st
 have w3 := sWant_ws kwSet w2
 have l3 := sWant_le kwSet (sName st).2
 obtain ⟨l, e, h⟩ := rep_of w3
 obtain ⟨_, _, _, _, _, h4, h5⟩ := upd_loop hN (k := fun _ _ _ _ _ _ _ _ _ _ _ _ _ _ _ _ _ _ _ _ _ _ _ _ _ _ _ => (none : Option Unit)) (kd := 0) (lim := 0) (a := 0) (tb := []) (N - 1) [] _ l e N (by omega) (by omega) (by omega) (by simp; omega) h
 have h4 : Rep (updL N (N - 1) [] (sWant kwSet (sName st).2)).2 _ _ := h4
 have h5 : lenS (updL N (N - 1) [] (sWant kwSet (sName st).2)).2 ≤ _ := h5
 obtain ⟨_, _, h | h⟩ := where_pl hN (rep_ws h4) (by omega)
 · exact .inr ⟨hi_nil, h⟩
 · exact .inl h
theorem del_H {st : PS} (hw : WS st) (hL : lenS st ≤ 1100) : (delT N st).2 = none ∨ Hs (delT N st).1 := by
 have w1 := sWant_ws kwFrom hw
 have l1 := sWant_le kwFrom st
 have w2 := name_ws w1
 have l2 := name_len (sWant kwFrom st)
 obtain ⟨_, _, h | h⟩ := where_pl hN w2 (by omega)
 · exact .inr ⟨hi_nil, h⟩
 · exact .inl h
theorem body_H {st : PS} (hw : WS st) (hL : lenS st ≤ 1100) : (bodyT N st).2 = none ∨ Hs (bodyT N st).1.1 := by
 have tl : ∀ {s : Bs}, sIs s st = true → WS (sTl st) ∧ lenS (sTl st) ≤ 1100 := fun h => ⟨tl_ws hw h, by have := tl_len h; omega⟩
 unfold bodyT
 split
 · rename_i h; exact sel_H hN (tl h).1 (tl h).2
 split
 · exact .inr ⟨hi_nil, z0_H⟩
 split
 · rename_i h; exact upd_H hN (tl h).1 (tl h).2
 split
 · rename_i h; exact del_H hN (tl h).1 (tl h).2
 · exact .inl rfl
theorem parseT_H {l : List Tk} (hw : Wt l) (hL : l.length ≤ 1100) {Z : Stm × List (Bs × Ex)} (h : parseT N l = some Z) : Hs Z.1 := by
 unfold parseT at h
 split at h
 · rename_i he
   cases h
   rcases body_H hN (st := some l) hw hL with hb | hb
   · rw [hb] at he; cases he
   · exact hb
 · cases h
end
end
end Go.Proofs.YtbikfekdakigiaaGreatDoor.E
