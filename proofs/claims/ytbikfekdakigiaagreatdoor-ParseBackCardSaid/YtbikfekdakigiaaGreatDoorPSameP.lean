/-
  Plain laws of the pure functions.
  Conditions: those that each statement prints, and no other.
-/
import Derived.Test.YtbikfekdakigiaaGreatDoorPStmtP
import Derived.Test.YtbikfekdakigiaaGreatDoorPParTP
set_option linter.unusedVariables false
set_option linter.unusedSimpArgs false
/-! Alike but for their places: what the document's Same and the program's Deep say. -/
namespace Go.Proofs.YtbikfekdakigiaaGreatDoor.E
open Go.Ev
set_option maxRecDepth 100000

abbrev SFn := Int → Int → Int → List UInt8 → List UInt8 → List UInt8 → Int → List Ex → Int → Int → Int → Int → Int → List UInt8 → List UInt8 → List UInt8 → Int → List Ex → Int → Int → Bool → Option (Bool × Unit)
def onS (g : SFn) (x e : Ex) : Option (Bool × Unit) := g x.op x.vk x.vn x.vs x.tab x.name x.num x.kids x.kind x.at_ e.op e.vk e.vn e.vs e.tab e.name e.num e.kids e.kind e.at_ false

section
variable {N : Nat} [Z : Z_ref17_Same]

theorem sl_0 (hN : 3 ≤ N) : ref17_SameList_o N [] [] false = some (true, ()) := by
  obtain ⟨f, rfl⟩ : ∃ f, N = f + 1 := ⟨N - 1, by omega⟩
  unfold ref17_SameList_o ref17_SameList_o_cps
  rw [cond_f (by simp)]
  show ref17_SameList_o_l0B (f + 1) _ (ref17_SameList_o_l0 (f + 1) _ _ _ f) _ _ _ _ _ _ = _
  unfold ref17_SameList_o_l0B
  rw [if_f (by simp)]

theorem sl_1 (hN : 3 ≤ N) {x e : Ex} (h : onS Z.r_ref17_Same x e = some (true, ())) : ref17_SameList_o N [x] [e] false = some (true, ()) := by
  obtain ⟨f, rfl⟩ : ∃ f, N = f + 1 + 1 := ⟨N - 2, by omega⟩
  have h' : Z_ref17_Same.r_ref17_Same x.op x.vk x.vn x.vs x.tab x.name x.num x.kids x.kind x.at_ e.op e.vk e.vn e.vs e.tab e.name e.num e.kids e.kind e.at_ false = some (true, ()) := h
  unfold ref17_SameList_o ref17_SameList_o_cps
  rw [cond_f (by simp)]
  show ref17_SameList_o_l0B (f + 1 + 1) _ (ref17_SameList_o_l0 (f + 1 + 1) _ _ _ (f + 1)) _ _ _ _ _ _ = _
  unfold ref17_SameList_o_l0B
  rw [if_t (by simp), nth_zero, bind_some', nth_zero, bind_some', h', bind_some', cnt]
  show ref17_SameList_o_l0B (f + 1 + 1) _ (ref17_SameList_o_l0 (f + 1 + 1) _ _ _ f) _ _ _ _ _ _ = _
  unfold ref17_SameList_o_l0B
  rw [if_f (by simp [wrap_i64_id])]

theorem sl_2 (hN : 3 ≤ N) {x e y u : Ex} (h : onS Z.r_ref17_Same x e = some (true, ())) (hy : onS Z.r_ref17_Same y u = some (true, ())) : ref17_SameList_o N [x, y] [e, u] false = some (true, ()) := by
  obtain ⟨f, rfl⟩ : ∃ f, N = f + 1 + 1 + 1 := ⟨N - 3, by omega⟩
  have h' : Z_ref17_Same.r_ref17_Same x.op x.vk x.vn x.vs x.tab x.name x.num x.kids x.kind x.at_ e.op e.vk e.vn e.vs e.tab e.name e.num e.kids e.kind e.at_ false = some (true, ()) := h
  have hy' : Z_ref17_Same.r_ref17_Same y.op y.vk y.vn y.vs y.tab y.name y.num y.kids y.kind y.at_ u.op u.vk u.vn u.vs u.tab u.name u.num u.kids u.kind u.at_ false = some (true, ()) := hy
  unfold ref17_SameList_o ref17_SameList_o_cps
  rw [cond_f (by simp)]
  show ref17_SameList_o_l0B (f + 1 + 1 + 1) _ (ref17_SameList_o_l0 (f + 1 + 1 + 1) _ _ _ (f + 1 + 1)) _ _ _ _ _ _ = _
  unfold ref17_SameList_o_l0B
  rw [if_t (by simp), nth_zero, bind_some', nth_zero, bind_some', h', bind_some', cnt, show IntKind.wrap .i64 (0 + 1) = 1 by decide]
  show ref17_SameList_o_l0B (f + 1 + 1 + 1) _ (ref17_SameList_o_l0 (f + 1 + 1 + 1) _ _ _ (f + 1)) _ _ _ _ _ _ = _
  unfold ref17_SameList_o_l0B
  rw [if_t (by simp), nth_one, bind_some', nth_one, bind_some', hy', bind_some', cnt, show IntKind.wrap .i64 (1 + 1) = 2 by decide]
  show ref17_SameList_o_l0B (f + 1 + 1 + 1) _ (ref17_SameList_o_l0 (f + 1 + 1 + 1) _ _ _ f) _ _ _ _ _ _ = _
  unfold ref17_SameList_o_l0B
  rw [if_f (by simp)]

theorem same_o {op vk vn num kind a a' : Int} {vs tab name : List UInt8} {ks ks' : List Ex} (hl : ks.length = ks'.length) (h : ref17_SameList_o N ks ks' false = some (true, ())) :
    onS (ref17_Same_o N) (Ex.mk op vk vn vs tab name num ks kind a) (Ex.mk op vk vn vs tab name num ks' kind a') = some (true, ()) := by
  show ref17_Same_o N op vk vn vs tab name num ks kind a op vk vn vs tab name num ks' kind a' false = _
  unfold ref17_Same_o ref17_Same_o_cps
  rw [cond_f (by simp), cond_f (by simp), cond_f (by simp), cond_f (by simp), cond_f (by simp), cond_f (by simp), cf, cond_f (by simp [hl]), h, bind_some']
end

theorem same_at {N : Nat} (hN : 3 ≤ N) {x e : Ex} (h : SmE x e) : ∀ n, hgt e ≤ n → onS (@ref17_Same_o (Z_ref17_Same_at N n) N) x e = some (true, ()) := by
  induction h with
  | leaf => exact fun n _ => @same_o N (Z_ref17_Same_at N n) _ _ _ _ _ _ _ _ _ _ _ _ rfl (@sl_0 N (Z_ref17_Same_at N n) hN)
  | one h ih =>
    intro n hn
    simp only [hgt, hgtL] at hn
    obtain ⟨m, rfl⟩ : ∃ m, n = m + 1 := ⟨n - 1, by omega⟩
    exact @same_o N (Z_ref17_Same_at N (m + 1)) _ _ _ _ _ _ _ _ _ _ _ _ rfl (@sl_1 N (Z_ref17_Same_at N (m + 1)) hN _ _ (ih m (by omega)))
  | two h h' ih ih' =>
    intro n hn
    simp only [hgt, hgtL] at hn
    obtain ⟨m, rfl⟩ : ∃ m, n = m + 1 := ⟨n - 1, by omega⟩
    exact @same_o N (Z_ref17_Same_at N (m + 1)) _ _ _ _ _ _ _ _ _ _ _ _ rfl (@sl_2 N (Z_ref17_Same_at N (m + 1)) hN _ _ _ _ (ih m (by omega)) (ih' m (by omega)))

theorem same_eq {N : Nat} (hN : 1000 ≤ N) {x e : Ex} (h : SmE x e) (hh : hgt e ≤ N) : onS (ref17_Same N) x e = some (true, ()) := same_at (by omega) h N hh

abbrev DFn := Int → Int → Int → List UInt8 → List UInt8 → List UInt8 → Int → List Ex → Int → Int → Option (Int × Unit)
def onD (g : DFn) (x : Ex) : Option (Int × Unit) := g x.op x.vk x.vn x.vs x.tab x.name x.num x.kids x.kind x.at_

section
variable {N : Nat} [Z : Z_parse_Deep]

def dTop (op : Int) (l m : Int) : Int := bif decide (op = 0) then (bif decide (l = 0) then 0 else IntKind.wrap .i64 (m + 1)) else IntKind.wrap .i64 (m + 1)

omit Z in
theorem dTop_eq (op l m : Int) : (bif decide (op = 0) then (bif decide (l = 0) then some ((0 : Int), ()) else some (IntKind.wrap .i64 (m + 1), ())) else some (IntKind.wrap .i64 (m + 1), ())) = some (dTop op l m, ()) := by
  unfold dTop
  cases decide (op = 0) <;> cases decide (l = 0) <;> rfl

theorem deep_0 (hN : 3 ≤ N) {op vk vn num kind a : Int} {vs tab name : List UInt8} : parse_Deep_o N op vk vn vs tab name num [] kind a = some (dTop op 0 0, ()) := by
  obtain ⟨f, rfl⟩ : ∃ f, N = f + 1 := ⟨N - 1, by omega⟩
  unfold parse_Deep_o parse_Deep_o_cps
  show parse_Deep_o_l0B (f + 1) _ (parse_Deep_o_l0 (f + 1) _ _ f) _ _ _ _ _ _ _ _ _ _ _ _ _ _ _ = _
  unfold parse_Deep_o_l0B
  rw [if_f (by simp)]
  exact dTop_eq op 0 0

theorem deep_1 (hN : 3 ≤ N) {op vk vn num kind a : Int} {vs tab name : List UInt8} {x : Ex} {d : Int} (h : onD Z.r_parse_Deep x = some (d, ())) : parse_Deep_o N op vk vn vs tab name num [x] kind a = some (dTop op 1 (maxI 0 d), ()) := by
  obtain ⟨f, rfl⟩ : ∃ f, N = f + 1 + 1 := ⟨N - 2, by omega⟩
  have h' : Z_parse_Deep.r_parse_Deep x.op x.vk x.vn x.vs x.tab x.name x.num x.kids x.kind x.at_ = some (d, ()) := h
  unfold parse_Deep_o parse_Deep_o_cps
  show parse_Deep_o_l0B (f + 1 + 1) _ (parse_Deep_o_l0 (f + 1 + 1) _ _ (f + 1)) _ _ _ _ _ _ _ _ _ _ _ _ _ _ _ = _
  unfold parse_Deep_o_l0B
  rw [if_t (by simp), nth_zero, bind_some', h', bind_some']
  show parse_Deep_o_l0B (f + 1 + 1) _ (parse_Deep_o_l0 (f + 1 + 1) _ _ f) _ _ _ _ _ _ _ _ _ _ _ _ _ _ _ = _
  unfold parse_Deep_o_l0B
  rw [if_f (by simp [wrap_i64_id])]
  exact dTop_eq op 1 _

theorem deep_2 (hN : 3 ≤ N) {op vk vn num kind a : Int} {vs tab name : List UInt8} {x y : Ex} {d d' : Int} (h : onD Z.r_parse_Deep x = some (d, ())) (hy : onD Z.r_parse_Deep y = some (d', ())) : parse_Deep_o N op vk vn vs tab name num [x, y] kind a = some (dTop op 2 (maxI (maxI 0 d) d'), ()) := by
  obtain ⟨f, rfl⟩ : ∃ f, N = f + 1 + 1 + 1 := ⟨N - 3, by omega⟩
  have h' : Z_parse_Deep.r_parse_Deep x.op x.vk x.vn x.vs x.tab x.name x.num x.kids x.kind x.at_ = some (d, ()) := h
  have hy' : Z_parse_Deep.r_parse_Deep y.op y.vk y.vn y.vs y.tab y.name y.num y.kids y.kind y.at_ = some (d', ()) := hy
  unfold parse_Deep_o parse_Deep_o_cps
  show parse_Deep_o_l0B (f + 1 + 1 + 1) _ (parse_Deep_o_l0 (f + 1 + 1 + 1) _ _ (f + 1 + 1)) _ _ _ _ _ _ _ _ _ _ _ _ _ _ _ = _
  unfold parse_Deep_o_l0B
  rw [if_t (by simp), nth_zero, bind_some', h', bind_some', show IntKind.wrap .i64 (0 + 1) = 1 by decide]
  show parse_Deep_o_l0B (f + 1 + 1 + 1) _ (parse_Deep_o_l0 (f + 1 + 1 + 1) _ _ (f + 1)) _ _ _ _ _ _ _ _ _ _ _ _ _ _ _ = _
  unfold parse_Deep_o_l0B
  rw [if_t (by simp), nth_one, bind_some', hy', bind_some', show IntKind.wrap .i64 (1 + 1) = 2 by decide]
  show parse_Deep_o_l0B (f + 1 + 1 + 1) _ (parse_Deep_o_l0 (f + 1 + 1 + 1) _ _ f) _ _ _ _ _ _ _ _ _ _ _ _ _ _ _ = _
  unfold parse_Deep_o_l0B
  rw [if_f (by simp)]
  exact dTop_eq op 2 _
end

theorem deep_at {N : Nat} (hN : 3 ≤ N) {x e : Ex} (h : SmE x e) : ∀ n, hgt e ≤ n → ∃ d, onD (@parse_Deep_o (Z_parse_Deep_at N n) N) x = some (d, ()) ∧ onD (@parse_Deep_o (Z_parse_Deep_at N n) N) e = some (d, ()) := by
  induction h with
  | leaf => exact fun n _ => ⟨_, @deep_0 N (Z_parse_Deep_at N n) hN _ _ _ _ _ _ _ _ _, @deep_0 N (Z_parse_Deep_at N n) hN _ _ _ _ _ _ _ _ _⟩
  | one h ih =>
    intro n hn
    simp only [hgt, hgtL] at hn
    obtain ⟨m, rfl⟩ : ∃ m, n = m + 1 := ⟨n - 1, by omega⟩
    obtain ⟨d, h1, h2⟩ := ih m (by omega)
    exact ⟨_, @deep_1 N (Z_parse_Deep_at N (m + 1)) hN _ _ _ _ _ _ _ _ _ _ _ h1, @deep_1 N (Z_parse_Deep_at N (m + 1)) hN _ _ _ _ _ _ _ _ _ _ _ h2⟩
  | two h h' ih ih' =>
    intro n hn
    simp only [hgt, hgtL] at hn
    obtain ⟨m, rfl⟩ : ∃ m, n = m + 1 := ⟨n - 1, by omega⟩
    obtain ⟨d, h1, h2⟩ := ih m (by omega)
    obtain ⟨d', h3, h4⟩ := ih' m (by omega)
    exact ⟨_, @deep_2 N (Z_parse_Deep_at N (m + 1)) hN _ _ _ _ _ _ _ _ _ _ _ _ _ h1 h3, @deep_2 N (Z_parse_Deep_at N (m + 1)) hN _ _ _ _ _ _ _ _ _ _ _ _ _ h2 h4⟩

theorem deep_eq {N : Nat} (hN : 1000 ≤ N) {x e : Ex} (h : SmE x e) (hh : hgt e ≤ N) : ∃ d, onD (parse_Deep N) x = some (d, ()) ∧ onD (parse_Deep N) e = some (d, ()) := deep_at (by omega) h N hh

theorem Bu.hgt {k : Nat} {e : Ex} {w : List UInt8} (h : Bu k e w) : hgt e + 1 ≤ 2 ^ (k + 1) := by
  have pow1 : ∀ k : Nat, 2 ≤ 2 ^ (k + 1) := fun k => by rw [Nat.pow_succ]; have : 1 ≤ 2 ^ k := Nat.one_le_two_pow; omega
  induction h with
  | @lit k _ _ _ _ => have := pow1 k; simp only [E.hgt, hgtL]; omega
  | @col k _ _ => have := pow1 k; simp only [E.hgt, hgtL]; omega
  | @qcol k _ _ => have := pow1 k; simp only [E.hgt, hgtL]; omega
  | @star k => have := pow1 k; simp only [mkX, E.hgt, hgtL]; omega
  | un _ _ ih => simp only [mkX, E.hgt, hgtL]; rw [Nat.pow_succ]; omega
  | isn _ ih => simp only [mkX, E.hgt, hgtL]; rw [Nat.pow_succ]; omega
  | two _ _ _ ih ih' => simp only [mkX, E.hgt, hgtL]; rw [Nat.pow_succ]; omega

end Go.Proofs.YtbikfekdakigiaaGreatDoor.E
