/-
  Plain laws of the pure functions.
  Conditions: those that each statement prints, and no other.
-/
import Derived.Test.YtbikfekdakigiaaGreatDoorPBackP
import Derived.Test.YtbikfekdakigiaaGreatDoorPLexWP
set_option linter.unusedVariables false
set_option linter.unusedSimpArgs false
/-! What is written of a tree is read back as that tree. -/
namespace Go.Proofs.YtbikfekdakigiaaGreatDoor.E
open Go.Ev
set_option maxRecDepth 100000

/-- A literal's value. -/
def LitOk (k n : Int) (s : List UInt8) : Prop := (k = 0 ∧ n = 0 ∧ s = []) ∨ (k = 1 ∧ n = 1 ∧ s = []) ∨ ((k = 2 ∨ k = 3) ∧ 0 ≤ n ∧ n ≤ 9223372036854775807 ∧ s = []) ∨ ((k = 4 ∨ k = 5) ∧ n = 0 ∧ s.length ≤ 20)

def nms : List (List UInt8) := [[97], [98, 95, 49], [99, 111, 108, 117]]
/-- What stands before a part in brackets. -/
def preOf : List (Int × List UInt8) := [(7, [45, 32]), (16, [110, 111, 116, 32]), (18, [99, 111, 117, 110, 116]), (19, [115, 117, 109]), (20, [109, 105, 110]), (21, [109, 97, 120])]
/-- What stands between two. -/
def sgOf : List (Int × List UInt8) := [(3, [43]), (4, [45]), (5, [42]), (6, [47]), (8, [61]), (9, [60, 62]), (10, [60]), (11, [60, 61]), (12, [62]), (13, [62, 61]), (14, [97, 110, 100]), (15, [111, 114])]
def sNull : List UInt8 := [32, 105, 115, 32, 110, 117, 108, 108]

def inB (w : List UInt8) : List UInt8 := 40 :: (w ++ [41])

/-- A tree, k deep, and what is written of it. -/
inductive Bu : Nat → Ex → List UInt8 → Prop
  | lit {k : Nat} {vk vn : Int} {vs : List UInt8} (h : LitOk vk vn vs) : Bu k (Ex.mk 1 vk vn vs [] [] 0 [] 0 0) (txt vk vn vs)
  | col {k : Nat} {nm : List UInt8} (h : nm ∈ nms) : Bu k (Ex.mk 2 0 0 [] [] nm 0 [] 0 0) nm
  | qcol {k : Nat} {nm : List UInt8} (h : nm ∈ nms) : Bu k (Ex.mk 2 0 0 [] [116] nm 0 [] 0 0) ([116, 46] ++ nm)
  | star {k : Nat} : Bu k (mkX 18 [] 0) [99, 111, 117, 110, 116, 40, 42, 41]
  | un {k : Nat} {x : Ex} {w : List UInt8} {p : Int × List UInt8} (hp : p ∈ preOf) (h : Bu k x w) : Bu (k + 1) (mkX p.1 [x] 0) (p.2 ++ inB w)
  | isn {k : Nat} {x : Ex} {w : List UInt8} (h : Bu k x w) : Bu (k + 1) (mkX 17 [x] 0) (inB w ++ sNull)
  | two {k : Nat} {x y : Ex} {w v : List UInt8} {p : Int × List UInt8} (hp : p ∈ sgOf) (h : Bu k x w) (h' : Bu k y v) : Bu (k + 1) (mkX p.1 [x, y] 0) (inB w ++ (32 :: (p.2 ++ (32 :: inB v))))

/-- Alike, but for their places. -/
inductive SmE : Ex → Ex → Prop
  | leaf {op vk vn num kind a a' : Int} {vs tab name : List UInt8} : SmE (Ex.mk op vk vn vs tab name num [] kind a) (Ex.mk op vk vn vs tab name num [] kind a')
  | one {op vk vn num kind a a' : Int} {vs tab name : List UInt8} {x x' : Ex} (h : SmE x x') : SmE (Ex.mk op vk vn vs tab name num [x] kind a) (Ex.mk op vk vn vs tab name num [x'] kind a')
  | two {op vk vn num kind a a' : Int} {vs tab name : List UInt8} {x x' y y' : Ex} (h : SmE x x') (h' : SmE y y') : SmE (Ex.mk op vk vn vs tab name num [x, y] kind a) (Ex.mk op vk vn vs tab name num [x', y'] kind a')

theorem Reads.mono {N c c' : Nat} {k k' : Int} {T : List Tk} {x : Ex} (h : Reads N c k T x) (hc : c ≤ c') (hk : k ≤ k') : Reads N c' k' T x := fun d rest m h0 hd hs hm => h d rest m h0 (by omega) hs (by omega)

/-- Its first token is no star. -/
def Hd (T : List Tk) : Prop := ∃ u v, T = u :: v ∧ isTok [42] u = false
theorem Hd.no {T : List Tk} (h : Hd T) : ∃ u v, T = u :: v ∧ ¬ (u.1 = 5 ∧ u.2.1 = [42]) := by
  obtain ⟨u, v, e, hu⟩ := h
  exact ⟨u, v, e, fun hh => by rw [tok_of hh] at hu; cases hu⟩

theorem tB_mk {i : Nat} : tB (L.mk (L.sg [40]) i) := ⟨rfl, rfl⟩
theorem tE_mk {i : Nat} : tE (L.mk (L.sg [41]) i) := ⟨rfl, rfl⟩

theorem lit_next {k n : Int} {s : List UInt8} (h : LitOk k n s) (hk : 2 ≤ k) : ∃ t, L.nextP (txt k n s) = some (t, (txt k n s, (k, (n, s)))) ∧ (t = 2 ∨ t = 3 ∨ t = 4) := by
  have hn : I64 n := by
    unfold I64
    rcases h with h | h | h | h <;> omega
  have hr : rightB k n s = true := by
    unfold rightB
    rcases h with h | h | ⟨h1, h2, h3, rfl⟩ | ⟨h1, rfl, h3⟩
    · omega
    · omega
    · rw [if_neg (by omega), if_neg (by omega), if_pos h1]; rfl
    · rw [if_neg (by omega), if_neg (by omega), if_neg (by omega), if_pos h1]; simp; omega
  have h0 : 0 ≤ n := by rcases h with h | h | h | h <;> omega
  unfold txt
  rw [if_neg (by rw [hr]; simp), if_neg (by omega), if_neg (by omega)]
  rcases h with h | h | ⟨h1, h2, h3, rfl⟩ | ⟨h1, rfl, h3⟩
  · omega
  · omega
  · rcases h1 with rfl | rfl
    · rw [if_pos rfl]; exact ⟨_, L.next_int hn h0, .inl rfl⟩
    · rw [if_neg (by decide), if_pos rfl]; exact ⟨_, L.next_dec hn h0, .inl rfl⟩
  · rcases h1 with rfl | rfl
    · rw [if_neg (by decide), if_neg (by decide), if_neg (by decide)]; exact ⟨_, L.next_txt (by omega), .inr (.inl rfl)⟩
    · rw [if_neg (by decide), if_neg (by decide), if_pos rfl]; exact ⟨_, L.next_raw (by omega), .inr (.inr rfl)⟩

theorem hb_of {w : List UInt8} {z : L.Tk} (h : L.nextP w = some z) : ∀ c, w.head? = some c → L.ofB c ≠ 1 := by
  intro c hc hb
  cases w with
  | nil => cases hc
  | cons d r => injection hc with e; subst e; rw [L.next_blank hb] at h; cases h

variable {N : Nat}

/-- Read back at any place. -/
def Bk (N : Nat) (k : Nat) (i : Nat) (w : List UInt8) (e : Ex) : Prop := ∃ T x, L.Txs i w T ∧ Reads N (20 * k + 20) (2 * k) T x ∧ Hd T ∧ SmE x e

theorem bk_word (hN : 2 ≤ N) {k i : Nat} {w : List UInt8} {z : L.Tk} {x : Ex} (e : Ex) (hz : L.nextP w = some z) (hl : z.2.1.length = w.length) (hh : isTok [42] (L.mk z i) = false) (hr : Reads N 6 0 [L.mk z i] x) (hs : SmE x e) : Bk N k i w e :=
  ⟨[L.mk z i], x, L.txs_tok (hb_of hz) hz hl, hr.mono (by omega) (by omega), ⟨_, [], rfl, hh⟩, hs⟩

theorem bk_lit (hN : 2 ≤ N) {k i : Nat} {vk vn : Int} {vs : List UInt8} (h : LitOk vk vn vs) : Bk N k i (txt vk vn vs) (Ex.mk 1 vk vn vs [] [] 0 [] 0 0) := by
  by_cases hk : 2 ≤ vk
  · obtain ⟨t, hn, ht⟩ := lit_next h hk
    exact bk_word hN _ hn rfl (by rcases ht with rfl | rfl | rfl <;> rfl) (lit_reads N hN (t := L.mk (t, (txt vk vn vs, (vk, (vn, vs)))) i) ht) .leaf
  · rcases h with ⟨rfl, rfl, rfl⟩ | ⟨rfl, rfl, rfl⟩ | h | h
    · exact bk_word hN _ (w := kNull) (z := L.wd kNull) (by kernel_rfl) rfl rfl (null_reads N hN (t := L.mk (L.wd kNull) i) rfl rfl) .leaf
    · exact bk_word hN _ (w := kTrue) (z := L.wd kTrue) (by kernel_rfl) rfl rfl (true_reads N hN (t := L.mk (L.wd kTrue) i) rfl rfl) .leaf
    · omega
    · omega

theorem nms_next {nm : List UInt8} (h : nm ∈ nms) : L.nextP nm = some (L.wd nm) ∧ nm ∉ resv ∧ nm ≠ [45] := by
  simp only [nms, List.mem_cons, List.not_mem_nil, or_false] at h
  rcases h with rfl | rfl | rfl <;> exact ⟨by kernel_rfl, by decide, by decide⟩

theorem bk_col (hN : 2 ≤ N) {k i : Nat} {nm : List UInt8} (h : nm ∈ nms) : Bk N k i nm (Ex.mk 2 0 0 [] [] nm 0 [] 0 0) := by
  obtain ⟨h1, h2, h3⟩ := nms_next h
  exact bk_word hN _ h1 rfl (by simp only [nms, List.mem_cons, List.not_mem_nil, or_false] at h; rcases h with rfl | rfl | rfl <;> rfl) (col_reads N hN (t := L.mk (L.wd nm) i) rfl h2 h3) .leaf

theorem bk_qcol (hN : 2 ≤ N) {k i : Nat} {nm : List UInt8} (h : nm ∈ nms) : Bk N k i ([116, 46] ++ nm) (Ex.mk 2 0 0 [] [116] nm 0 [] 0 0) := by
  obtain ⟨h1, h2, h3⟩ := nms_next h
  refine ⟨[L.mk (L.wd [116]) i, L.mk (L.sg [46]) (i + 1), L.mk (L.wd nm) (i + 2)], _, ?_, (qcol_reads N hN (t := L.mk (L.wd [116]) i) (p := L.mk (L.sg [46]) (i + 1)) (c := L.mk (L.wd nm) (i + 2)) rfl (show ([116] : List UInt8) ∉ resv by decide) (show ([116] : List UInt8) ≠ [45] by decide) rfl rfl h2).mono (by omega) (by omega), ⟨_, _, rfl, rfl⟩, .leaf⟩
  intro rest l hr hx
  refine L.lx_raw (w := [116]) (rest := [46] ++ nm ++ rest) (z := L.wd [116]) (by decide) ?_ rfl ?_
  · exact L.word_of (c := 116) (a := []) (by decide) (by decide) (fun x e => by injection e with e; subst e; decide) (fun h => absurd h.2 (by decide))
  · refine L.lx_one (c := 46) (.inr (.inr (.inr rfl))) ?_
    refine L.lx_tok (hb_of h1) h1 rfl hr ?_
    have : i + ([116] : List UInt8).length + 1 + nm.length = i + ([116, 46] ++ nm).length := by simp; omega
    show L.Lx (i + ([116] : List UInt8).length + 1 + nm.length) rest l
    rw [this]; exact hx

theorem bk_star (hN : 2 ≤ N) {k i : Nat} : Bk N k i [99, 111, 117, 110, 116, 40, 42, 41] (mkX 18 [] 0) := by
  refine ⟨[L.mk (L.wd kCount) i, L.mk (L.sg [40]) (i + 5), L.mk (L.sg [42]) (i + 6), L.mk (L.sg [41]) (i + 7)], _, ?_, (star_reads N hN (t := L.mk (L.wd kCount) i) (b := L.mk (L.sg [40]) (i + 5)) (s := L.mk (L.sg [42]) (i + 6)) (e := L.mk (L.sg [41]) (i + 7)) rfl rfl tB_mk ⟨rfl, rfl⟩ tE_mk).mono (by omega) (by omega), ⟨_, _, rfl, rfl⟩, .leaf⟩
  intro rest l hr hx
  have hz : L.nextP kCount = some (L.wd kCount) := by kernel_rfl
  exact L.lx_tok (w := kCount) (rest := 40 :: 42 :: 41 :: rest) (hb_of hz) hz rfl (.cons (.inr (.inl rfl))) (L.lx_one (.inl rfl) (L.lx_one (.inr (.inr (.inl rfl))) (L.lx_one (.inr (.inl rfl)) hx)))

theorem txa_in {i : Nat} {w : List UInt8} {T : List Tk} (h : L.Txs (i + 1) w T) : L.Txa i (inB w) (br (L.mk (L.sg [40]) i) T (L.mk (L.sg [41]) (i + (1 + w.length)))) := L.txa_br h

theorem hd_br {b : Tk} (hb : tB b) (T : List Tk) (e : Tk) (U : List Tk) : Hd (br b T e ++ U) := ⟨b, _, rfl, tok_ne hb.2 (by decide)⟩

theorem bk_un (hN : 2 ≤ N) {k i : Nat} {x : Ex} {w : List UInt8} {p : Int × List UInt8} (hp : p ∈ preOf) (h : ∀ i, Bk N k i w x) : Bk N (k + 1) i (p.2 ++ inB w) (mkX p.1 [x] 0) := by
  have word : ∀ (op : Int) (u : List UInt8), p = (op, u) → L.nextP u = some (L.wd u) → (op = 18 ∧ u = kCount ∨ op = 19 ∧ u = [115, 117, 109] ∨ op = 20 ∧ u = [109, 105, 110] ∨ op = 21 ∧ u = [109, 97, 120]) → Bk N (k + 1) i (p.2 ++ inB w) (mkX p.1 [x] 0) := by
    intro op u e hn ho
    subst e
    obtain ⟨T, y, h1, h2, h3, h4⟩ := h (i + u.length + 1)
    have hw : isTok [42] (L.mk (L.wd u) i) = false := by
      rcases ho with ⟨_, rfl⟩ | ⟨_, rfl⟩ | ⟨_, rfl⟩ | ⟨_, rfl⟩ <;> rfl
    refine ⟨L.mk (L.wd u) i :: br (L.mk (L.sg [40]) (i + u.length)) T (L.mk (L.sg [41]) (i + u.length + (1 + w.length))), _, ?_, (agg_reads N hN (by omega) h2 (t := L.mk (L.wd u) i) rfl tB_mk tE_mk op ?_).mono (by omega) (by omega), ⟨_, _, rfl, hw⟩, .one h4⟩
    · exact (L.Txs.app (L.txs_tok (hb_of hn) hn rfl) (txa_in h1) (c := 40) rfl (.inr (.inl rfl))).txs
    · rcases ho with ⟨a, b⟩ | ho
      · exact .inl ⟨a, b, h3.no⟩
      · exact .inr ho
  have sp : ∀ (op : Int) (u : List UInt8) (z : L.Tk) (f : Tk → Prop), p = (op, u ++ [32]) → L.nextP u = some z → z.2.1.length = u.length → isTok [42] (L.mk z i) = false → (∀ (T : List Tk) (y : Ex) (b e : Tk), tB b → tE e → Reads N (20 * k + 20) (2 * k) T y → Reads N (20 * k + 20 + 20) (2 * k + 2) (L.mk z i :: br b T e) (mkX op [y] i)) → Bk N (k + 1) i (p.2 ++ inB w) (mkX p.1 [x] 0) := by
    intro op u z _ e hn hl hh hr
    subst e
    obtain ⟨T, y, h1, h2, h3, h4⟩ := h (i + u.length + 1 + 1)
    refine ⟨L.mk z i :: br (L.mk (L.sg [40]) (i + u.length + 1)) T (L.mk (L.sg [41]) (i + u.length + 1 + (1 + w.length))), _, ?_, (hr T y _ _ tB_mk tE_mk h2).mono (by omega) (by omega), ⟨_, _, rfl, hh⟩, .one h4⟩
    have a := L.Txs.app (L.txs_tok (hb_of hn) hn hl) (L.txa_blank (i := i + u.length)) (c := 32) rfl (.inl rfl)
    have b := L.Txa.app a (v := inB w) (U := br (L.mk (L.sg [40]) (i + u.length + 1)) T (L.mk (L.sg [41]) (i + u.length + 1 + (1 + w.length)))) (by rw [List.length_append, ← Nat.add_assoc]; exact txa_in h1)
    exact b.txs
  simp only [preOf, List.mem_cons, List.not_mem_nil, or_false] at hp
  rcases hp with e | e | e | e | e | e
  · exact sp 7 [45] (L.sg [45]) (fun _ => True) e (by kernel_rfl) rfl rfl fun T y b e hb he hr => neg_at N hN (by omega) hr hb he (o := L.mk (L.sg [45]) i) ⟨rfl, rfl⟩
  · exact sp 16 kNot (L.wd kNot) (fun _ => True) e (by kernel_rfl) rfl rfl fun T y b e hb he hr => not_at N hN (by omega) hr hb he (o := L.mk (L.wd kNot) i) rfl
  · exact word 18 _ e (by kernel_rfl) (.inl ⟨rfl, rfl⟩)
  · exact word 19 _ e (by kernel_rfl) (.inr (.inl ⟨rfl, rfl⟩))
  · exact word 20 _ e (by kernel_rfl) (.inr (.inr (.inl ⟨rfl, rfl⟩)))
  · exact word 21 _ e (by kernel_rfl) (.inr (.inr (.inr ⟨rfl, rfl⟩)))

theorem bk_isn (hN : 2 ≤ N) {k i : Nat} {x : Ex} {w : List UInt8} (h : ∀ i, Bk N k i w x) : Bk N (k + 1) i (inB w ++ sNull) (mkX 17 [x] 0) := by
  obtain ⟨T, y, h1, h2, h3, h4⟩ := h (i + 1)
  have hi : L.nextP kIs = some (L.wd kIs) := by kernel_rfl
  have hu : L.nextP kNull = some (L.wd kNull) := by kernel_rfl
  refine ⟨br (L.mk (L.sg [40]) i) T (L.mk (L.sg [41]) (i + (1 + w.length))) ++ [L.mk (L.wd kIs) (i + (inB w).length + 1), L.mk (L.wd kNull) (i + (inB w).length + 1 + 2 + 1)], _, ?_, (isnull_at N hN (by omega) h2 tB_mk tE_mk (i := L.mk (L.wd kIs) (i + (inB w).length + 1)) (u := L.mk (L.wd kNull) (i + (inB w).length + 1 + 2 + 1)) rfl rfl rfl ?_).mono (by omega) (by omega), hd_br tB_mk _ _ _, .one h4⟩
  · have a := txa_in h1
    have b := L.Txa.app (L.txa_blank (i := i + (inB w).length)) (L.Txs.app (L.txs_tok (i := i + (inB w).length + 1) (hb_of hi) hi rfl) (L.txa_blank (i := i + (inB w).length + 1 + 2)) (c := 32) rfl (.inl rfl))
    have c := L.Txa.apps b (v := kNull) (U := [L.mk (L.wd kNull) (i + (inB w).length + 1 + 2 + 1)]) (L.txs_tok (hb_of hu) hu rfl)
    exact L.Txa.apps a c
  · intro l
    show opOf l 1 kIs = 0
    unfold opOf
    split
    · repeat' split
      all_goals first | rfl | (rename_i h; exact absurd h (by decide))
    · rfl

theorem bk_two (hN : 2 ≤ N) {k i : Nat} {x y : Ex} {w v : List UInt8} {p : Int × List UInt8} (hp : p ∈ sgOf) (h : ∀ i, Bk N k i w x) (h' : ∀ i, Bk N k i v y) : Bk N (k + 1) i (inB w ++ (32 :: (p.2 ++ (32 :: inB v)))) (mkX p.1 [x, y] 0) := by
  have go : ∀ (op : Int) (u : List UInt8) (z : L.Tk), p = (op, u) → L.nextP u = some z → z.2.1.length = u.length → (∀ (j : Nat) (T T' : List Tk) (x y : Ex) (b e b' e' : Tk), tB b → tE e → tB b' → tE e' → Reads N (20 * k + 20) (2 * k) T x → Reads N (20 * k + 20) (2 * k) T' y → Reads N (20 * k + 20 + 20) (2 * k + 1) (br b T e ++ L.mk z j :: br b' T' e') (mkX op [x, y] j)) →
      Bk N (k + 1) i (inB w ++ (32 :: (p.2 ++ (32 :: inB v)))) (mkX p.1 [x, y] 0) := by
    intro op u z e hn hl hr
    subst e
    obtain ⟨T, x1, h1, h2, h3, h4⟩ := h (i + 1)
    obtain ⟨U, y1, g1, g2, g3, g4⟩ := h' (i + (inB w).length + 1 + u.length + 1 + 1)
    refine ⟨br (L.mk (L.sg [40]) i) T (L.mk (L.sg [41]) (i + (1 + w.length))) ++ L.mk z (i + (inB w).length + 1) :: br (L.mk (L.sg [40]) (i + (inB w).length + 1 + u.length + 1)) U (L.mk (L.sg [41]) (i + (inB w).length + 1 + u.length + 1 + (1 + v.length))), _, ?_, (hr (i + (inB w).length + 1) T U x1 y1 _ _ _ _ tB_mk tE_mk tB_mk tE_mk h2 g2).mono (by omega) (by omega), hd_br tB_mk _ _ _, .two h4 g4⟩
    have a := txa_in h1
    have b := L.Txs.app (L.txs_tok (i := i + (inB w).length + 1) (hb_of hn) hn hl) (L.txa_blank (i := i + (inB w).length + 1 + u.length)) (c := 32) rfl (.inl rfl)
    have c := L.Txa.app (L.txa_blank (i := i + (inB w).length)) b
    have d := L.Txa.app c (v := inB v) (U := br (L.mk (L.sg [40]) (i + (inB w).length + 1 + u.length + 1)) U (L.mk (L.sg [41]) (i + (inB w).length + 1 + u.length + 1 + (1 + v.length)))) (by
      have e : i + (inB w).length + ([32] ++ (u ++ [32])).length = i + (inB w).length + 1 + u.length + 1 := by simp; omega
      rw [e]; exact txa_in g1)
    have e := (L.Txa.app a d).txs
    have e2 : [32] ++ (u ++ [32]) ++ inB v = 32 :: (u ++ (32 :: inB v)) := by simp
    rw [e2] at e
    exact e
  have bin : ∀ (lv op : Int) (u : List UInt8) (z : L.Tk), p = (op, u) → L.nextP u = some z → z.2.1.length = u.length → (lv = 0 ∨ lv = 1 ∨ lv = 3 ∨ lv = 4) → opOf lv z.1 z.2.1 = op → op ≠ 0 → Bk N (k + 1) i (inB w ++ (32 :: (p.2 ++ (32 :: inB v)))) (mkX p.1 [x, y] 0) := by
    intro lv op u z e hn hl hv ho hne
    refine go op u z e hn hl fun j T T' x y b e b' e' hb he hb' he' h1 h2 => ?_
    have := bin_at N hN (by omega) h1 h2 hb he hb' he' (o := L.mk z j) hv (show opOf lv z.1 z.2.1 ≠ 0 by rw [ho]; exact hne)
    have e2 : opOf lv (L.mk z j).1 (L.mk z j).2.1 = op := ho
    rw [e2] at this
    exact this
  have cmp : ∀ (op : Int) (u : List UInt8), p = (op, u) → L.nextP u = some (L.sg u) → cmpOp u = op → op ≠ 0 → u ≠ kIs → (∀ l, opOf l 5 u = 0) → Bk N (k + 1) i (inB w ++ (32 :: (p.2 ++ (32 :: inB v)))) (mkX p.1 [x, y] 0) := by
    intro op u e hn ho hne hi hop
    refine go op u (L.sg u) e hn rfl fun j T T' x y b e b' e' hb he hb' he' h1 h2 => ?_
    have := cmp_at N hN (by omega) h1 h2 hb he hb' he' (o := L.mk (L.sg u) j) rfl (show cmpOp u ≠ 0 by rw [ho]; exact hne) (tok_ne rfl hi) hop
    have e2 : cmpOp (L.mk (L.sg u) j).2.1 = op := ho
    rw [e2] at this
    exact this
  have nop : ∀ u : List UInt8, u ≠ [111, 114] → u ≠ [97, 110, 100] → u ≠ [43] → u ≠ [45] → u ≠ [42] → u ≠ [47] → ∀ l, opOf l 5 u = 0 := by
    intro u a b c d e f l
    unfold opOf
    rw [if_neg a, if_neg b, if_neg c, if_neg d, if_neg e, if_neg f]
    simp
  simp only [sgOf, List.mem_cons, List.not_mem_nil, or_false] at hp
  rcases hp with e | e | e | e | e | e | e | e | e | e | e | e
  · exact bin 3 3 _ (L.sg [43]) e (by kernel_rfl) rfl (by decide) (by decide) (by decide)
  · exact bin 3 4 _ (L.sg [45]) e (by kernel_rfl) rfl (by decide) (by decide) (by decide)
  · exact bin 4 5 _ (L.sg [42]) e (by kernel_rfl) rfl (by decide) (by decide) (by decide)
  · exact bin 4 6 _ (L.sg [47]) e (by kernel_rfl) rfl (by decide) (by decide) (by decide)
  · exact cmp 8 _ e (by kernel_rfl) (by decide) (by decide) (by decide) (nop _ (by decide) (by decide) (by decide) (by decide) (by decide) (by decide))
  · exact cmp 9 _ e (by kernel_rfl) (by decide) (by decide) (by decide) (nop _ (by decide) (by decide) (by decide) (by decide) (by decide) (by decide))
  · exact cmp 10 _ e (by kernel_rfl) (by decide) (by decide) (by decide) (nop _ (by decide) (by decide) (by decide) (by decide) (by decide) (by decide))
  · exact cmp 11 _ e (by kernel_rfl) (by decide) (by decide) (by decide) (nop _ (by decide) (by decide) (by decide) (by decide) (by decide) (by decide))
  · exact cmp 12 _ e (by kernel_rfl) (by decide) (by decide) (by decide) (nop _ (by decide) (by decide) (by decide) (by decide) (by decide) (by decide))
  · exact cmp 13 _ e (by kernel_rfl) (by decide) (by decide) (by decide) (nop _ (by decide) (by decide) (by decide) (by decide) (by decide) (by decide))
  · exact bin 1 14 _ (L.wd [97, 110, 100]) e (by kernel_rfl) rfl (by decide) (by decide) (by decide)
  · exact bin 0 15 _ (L.wd [111, 114]) e (by kernel_rfl) rfl (by decide) (by decide) (by decide)

/-- What is written of a tree is read as that tree. -/
theorem back (hN : 2 ≤ N) {k : Nat} {e : Ex} {w : List UInt8} (h : Bu k e w) : ∀ i, Bk N k i w e := by
  induction h with
  | lit h => exact fun i => bk_lit hN h
  | col h => exact fun i => bk_col hN h
  | qcol h => exact fun i => bk_qcol hN h
  | star => exact fun i => bk_star hN
  | un hp _ ih => exact fun i => bk_un hN hp ih
  | isn _ ih => exact fun i => bk_isn hN ih
  | two hp _ _ ih ih' => exact fun i => bk_two hN hp ih ih'

end Go.Proofs.YtbikfekdakigiaaGreatDoor.E
