/-
  Plain laws of the pure functions.
  Conditions: those that each statement prints, and no other.
-/
import Derived.Test.YtbikfekdakigiaaGreatDoorPAlikeP
set_option linter.unusedVariables false
set_option linter.unusedSimpArgs false
namespace Go.Proofs.YtbikfekdakigiaaGreatDoor.E
open Go.Ev
set_option maxRecDepth 100000
theorem SmE.symm {x y : Ex} (h : SmE x y) : SmE y x := by
 induction h with
 | leaf => exact .leaf
 | one _ ih => exact .one ih
 | two _ _ ih ih' => exact .two ih ih'
abbrev SFn := Int → Int → Int → List UInt8 → List UInt8 → List UInt8 → Int → List Ex → Int → Int → Int → Int → Int → List UInt8 → List UInt8 → List UInt8 → Int → List Ex → Int → Int → Bool → Option (Bool × Unit)
def onS (g : SFn) (x e : Ex) : Option (Bool × Unit) := g x.op x.vk x.vn x.vs x.tab x.name x.num x.kids x.kind x.at_ e.op e.vk e.vn e.vs e.tab e.name e.num e.kids e.kind e.at_ false
section
variable {N : Nat} [Z : Z_r7_Same]
theorem sl_0 (hN : 3 ≤ N) : r7_SameList_o N [] [] false = some (true, ()) := by
 obtain ⟨f, rfl⟩ : ∃ f, N = f + 1 := ⟨N - 1, by omega⟩
 unfold r7_SameList_o r7_SameList_o_cps
 rw [cond_f (by simp)]
 show r7_SameList_o_l0B (f + 1) _ (r7_SameList_o_l0 (f + 1) _ _ _ f) _ _ _ _ _ _ = _
 unfold r7_SameList_o_l0B
 rw [if_f (by simp)]
theorem sl_1 (hN : 3 ≤ N) {x e : Ex} (h : onS Z.r_r7_Same x e = some (true, ())) : r7_SameList_o N [x] [e] false = some (true, ()) := by
 obtain ⟨f, rfl⟩ : ∃ f, N = f + 1 + 1 := ⟨N - 2, by omega⟩
 have h' : Z_r7_Same.r_r7_Same x.op x.vk x.vn x.vs x.tab x.name x.num x.kids x.kind x.at_ e.op e.vk e.vn e.vs e.tab e.name e.num e.kids e.kind e.at_ false = some (true, ()) := h
 unfold r7_SameList_o r7_SameList_o_cps
 rw [cond_f (by simp)]
 show r7_SameList_o_l0B (f + 1 + 1) _ (r7_SameList_o_l0 (f + 1 + 1) _ _ _ (f + 1)) _ _ _ _ _ _ = _
 unfold r7_SameList_o_l0B
 rw [if_t (by simp), nth_zero, bind_some', nth_zero, bind_some', h', bind_some', cnt]
 show r7_SameList_o_l0B (f + 1 + 1) _ (r7_SameList_o_l0 (f + 1 + 1) _ _ _ f) _ _ _ _ _ _ = _
 unfold r7_SameList_o_l0B
 rw [if_f (by simp [wrap_i64_id])]
theorem sl_2 (hN : 3 ≤ N) {x e y u : Ex} (h : onS Z.r_r7_Same x e = some (true, ())) (hy : onS Z.r_r7_Same y u = some (true, ())) : r7_SameList_o N [x, y] [e, u] false = some (true, ()) := by
 obtain ⟨f, rfl⟩ : ∃ f, N = f + 1 + 1 + 1 := ⟨N - 3, by omega⟩
 have h' : Z_r7_Same.r_r7_Same x.op x.vk x.vn x.vs x.tab x.name x.num x.kids x.kind x.at_ e.op e.vk e.vn e.vs e.tab e.name e.num e.kids e.kind e.at_ false = some (true, ()) := h
 have hy' : Z_r7_Same.r_r7_Same y.op y.vk y.vn y.vs y.tab y.name y.num y.kids y.kind y.at_ u.op u.vk u.vn u.vs u.tab u.name u.num u.kids u.kind u.at_ false = some (true, ()) := hy
 unfold r7_SameList_o r7_SameList_o_cps
 rw [cond_f (by simp)]
 show r7_SameList_o_l0B (f + 1 + 1 + 1) _ (r7_SameList_o_l0 (f + 1 + 1 + 1) _ _ _ (f + 1 + 1)) _ _ _ _ _ _ = _
 unfold r7_SameList_o_l0B
 rw [if_t (by simp), nth_zero, bind_some', nth_zero, bind_some', h', bind_some', cnt, show IntKind.wrap .i64 (0 + 1) = 1 by decide]
 show r7_SameList_o_l0B (f + 1 + 1 + 1) _ (r7_SameList_o_l0 (f + 1 + 1 + 1) _ _ _ (f + 1)) _ _ _ _ _ _ = _
 unfold r7_SameList_o_l0B
 rw [if_t (by simp), nth_one, bind_some', nth_one, bind_some', hy', bind_some', cnt, show IntKind.wrap .i64 (1 + 1) = 2 by decide]
 show r7_SameList_o_l0B (f + 1 + 1 + 1) _ (r7_SameList_o_l0 (f + 1 + 1 + 1) _ _ _ f) _ _ _ _ _ _ = _
 unfold r7_SameList_o_l0B
 rw [if_f (by simp)]
theorem same_o {op vk vn num kind a a' : Int} {vs tab name : List UInt8} {ks ks' : List Ex} (hl : ks.length = ks'.length) (h : r7_SameList_o N ks ks' false = some (true, ())) :
 onS (r7_Same_o N) (Ex.mk op vk vn vs tab name num ks kind a) (Ex.mk op vk vn vs tab name num ks' kind a') = some (true, ()) := by
 show r7_Same_o N op vk vn vs tab name num ks kind a op vk vn vs tab name num ks' kind a' false = _
 unfold r7_Same_o r7_Same_o_cps
 rw [cond_f (by simp), cond_f (by simp), cond_f (by simp), cond_f (by simp), cond_f (by simp), cond_f (by simp), cf, cond_f (by simp [hl]), h, bind_some']
end
theorem same_at {N : Nat} (hN : 3 ≤ N) {x e : Ex} (h : SmE x e) : ∀ n, hgt e ≤ n → onS (@r7_Same_o (Z_r7_Same_at N n) N) x e = some (true, ()) := by
 induction h with
 | leaf => exact fun n _ => @same_o N (Z_r7_Same_at N n) _ _ _ _ _ _ _ _ _ _ _ _ rfl (@sl_0 N (Z_r7_Same_at N n) hN)
 | one h ih =>
  intro n hn
  simp only [hgt, hgtL] at hn
  obtain ⟨m, rfl⟩ : ∃ m, n = m + 1 := ⟨n - 1, by omega⟩
  exact @same_o N (Z_r7_Same_at N (m + 1)) _ _ _ _ _ _ _ _ _ _ _ _ rfl (@sl_1 N (Z_r7_Same_at N (m + 1)) hN _ _ (ih m (by omega)))
 | two h h' ih ih' =>
  intro n hn
  simp only [hgt, hgtL] at hn
  obtain ⟨m, rfl⟩ : ∃ m, n = m + 1 := ⟨n - 1, by omega⟩
  exact @same_o N (Z_r7_Same_at N (m + 1)) _ _ _ _ _ _ _ _ _ _ _ _ rfl (@sl_2 N (Z_r7_Same_at N (m + 1)) hN _ _ _ _ (ih m (by omega)) (ih' m (by omega)))
theorem same_eq {N : Nat} (hN : 1000 ≤ N) {x e : Ex} (h : SmE x e) (hh : hgt e ≤ N) : onS (r7_Same N) x e = some (true, ()) := same_at (by omega) h N hh
end Go.Proofs.YtbikfekdakigiaaGreatDoor.E
