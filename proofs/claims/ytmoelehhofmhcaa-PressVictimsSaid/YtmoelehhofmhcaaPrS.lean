/- Inserting one by one, as lists; rows of candidates, two of them exchanged. -/
import Derived.Test.YtmoelehhofmhcaaPrB
namespace Go.Proofs.Ytmoelehhofmhcaa.V
open Go Go.RowKit Go.Proofs.Ytmoelehhofmhcaa.K
set_option linter.unusedVariables false
set_option linter.unusedSimpArgs false
section
variable {α : Type}
/-- Put in, from the end (the list the other way round). -/
def rins (lt : α → α → Bool) (e : α) : List α → List α
 | [] => [e]
 | y :: R => if lt e y then y :: rins lt e R else e :: y :: R
def rsort (lt : α → α → Bool) (X : List α) : List α := X.foldl (fun R e => rins lt e R) []
/-- In order, one by one put in. -/
def isort (lt : α → α → Bool) (X : List α) : List α := (rsort lt X).reverse
theorem rins_perm (lt : α → α → Bool) (e : α) : ∀ R, (rins lt e R).Perm (e :: R)
 | [] => List.Perm.refl _
 | y :: R => by
  unfold rins
  split
  ·exact ((rins_perm lt e R).cons y).trans (List.Perm.swap e y R)
  ·exact List.Perm.refl _
theorem rsort_snoc (lt : α → α → Bool) (X : List α) (e : α) : rsort lt (X ++ [e]) = rins lt e (rsort lt X) := by simp [rsort, List.foldl_append]
theorem rfold_perm (lt : α → α → Bool) : ∀ (X R : List α), (X.foldl (fun R e => rins lt e R) R).Perm (X ++ R)
 | [], _ => List.Perm.refl _
 | x :: X, R => (rfold_perm lt X (rins lt x R)).trans (((rins_perm lt x R).append_left X).trans List.perm_middle)
theorem rsort_perm (lt : α → α → Bool) (X : List α) : (rsort lt X).Perm X := by
 have := rfold_perm lt X []
 rwa [List.append_nil] at this
theorem isort_perm (lt : α → α → Bool) (X : List α) : (isort lt X).Perm X := (List.reverse_perm _).trans (rsort_perm lt X)
theorem isort_len (lt : α → α → Bool) (X : List α) : (isort lt X).length = X.length := (isort_perm lt X).length_eq
theorem isort_one (lt : α → α → Bool) (X : List α) : isort lt (X.take 1) = X.take 1 := by
 cases X with
 | nil => rfl
 | cons x X => rfl
theorem isort_mem {lt : α → α → Bool} {X : List α} {x : α} (h : x ∈ isort lt X) : x ∈ X := (isort_perm lt X).mem_iff.1 h
theorem isort_snoc (lt : α → α → Bool) {X : List α} {k : Nat} {e : α} (h : X[k]? = some e) : isort lt (X.take (k + 1)) = (rins lt e (isort lt (X.take k)).reverse).reverse := by
 rw [take_snoc h]
 unfold isort
 rw [rsort_snoc, List.reverse_reverse]
/-- Where the element goes: behind C, ahead of D. -/
theorem rins_end {lt : α → α → Bool} {e : α} {B D : List α} (h : rins lt e B.reverse = D.reverse ++ [e]) : e :: D = (rins lt e B.reverse).reverse := by rw [h]; simp
theorem last_ways (B : List α) : B = [] ∨ ∃ C y, B = C ++ [y] := by
 rcases List.eq_nil_or_concat B with h | ⟨B1, y, h⟩
 ·exact .inl h
 ·exact .inr ⟨B1, y, by rw [h, List.concat_eq_append]⟩
theorem ins_ways (lt : α → α → Bool) (B : List α) (e : α) : B = [] ∨ (∃ C y, B = C ++ [y] ∧ lt e y = true) ∨ (∃ C y, B = C ++ [y] ∧ lt e y = false) := by
 rcases last_ways B with h | ⟨C, y, h⟩
 ·exact .inl h
 ·cases hh : lt e y
  ·exact .inr (.inr ⟨C, y, h, hh⟩)
  ·exact .inr (.inl ⟨C, y, h, hh⟩)
theorem rins_step {lt : α → α → Bool} {e y : α} {B C D : List α} (h : rins lt e B.reverse = D.reverse ++ rins lt e (C ++ [y]).reverse) (hy : lt e y = true) : rins lt e B.reverse = (y :: D).reverse ++ rins lt e C.reverse := by
 rw [h]
 simp [rins, hy]
theorem rins_stop {lt : α → α → Bool} {e y : α} {B C D : List α} (h : rins lt e B.reverse = D.reverse ++ rins lt e (C ++ [y]).reverse) (hy : lt e y = false) : (rins lt e B.reverse).reverse = (C ++ [y]) ++ e :: D := by
 rw [h]
 simp [rins, hy]
theorem rins_nil {lt : α → α → Bool} {e : α} {B D : List α} (h : rins lt e B.reverse = D.reverse ++ rins lt e ([] : List α).reverse) : (rins lt e B.reverse).reverse = e :: D := by
 rw [h]
 simp [rins]
theorem apart {A : List α} {k : Nat} (h : k < A.length) : ∃ x, A[k]? = some x ∧ A.drop k = x :: A.drop (k + 1) ∧ A.take (k + 1) = A.take k ++ [x] := ⟨A[k], List.getElem?_eq_getElem h, List.drop_eq_getElem_cons h, List.take_succ_eq_append_getElem h⟩
/-! A row, one of it stored anew. -/
variable {f : α → List Value} {m : Nat}
theorem fset (hf : ∀ x, (f x).length = m) (U T : List α) (x y : α) : (((U ++ x :: T).flatMap f).take (U.length * m) ++ (f y) ++ ((U ++ x :: T).flatMap f).drop (U.length * m + m)) = (U ++ y :: T).flatMap f := by
 have h1 : (U.flatMap f).length = U.length * m := flat_len hf U
 rw [List.flatMap_append, List.flatMap_cons, List.flatMap_append, List.flatMap_cons, List.take_append_of_le_length (by omega), List.take_of_length_le (by omega), List.append_assoc]
 congr 1
 congr 1
 rw [List.drop_append, List.drop_of_length_le (by omega), List.nil_append, h1, show U.length * m + m - U.length * m = m by omega, List.drop_append, List.drop_of_length_le (by rw [hf]; exact Nat.le_refl _), hf, Nat.sub_self]
 rfl
theorem get_1 (U T : List α) (x : α) : (U ++ x :: T)[U.length]? = some x := by simp
theorem get_2 (U V T : List α) (x y : α) : (U ++ x :: (V ++ y :: T))[U.length + 1 + V.length]? = some y := by
 rw [show U ++ x :: (V ++ y :: T) = (U ++ x :: V) ++ y :: T by simp, show U.length + 1 + V.length = (U ++ x :: V).length by simp; omega]
 exact get_1 _ _ _
theorem fset2 (hf : ∀ x, (f x).length = m) (U V T : List α) (x y z : α) : (((U ++ x :: (V ++ y :: T)).flatMap f).take ((U.length + 1 + V.length) * m) ++ (f z) ++ ((U ++ x :: (V ++ y :: T)).flatMap f).drop ((U.length + 1 + V.length) * m + m)) = (U ++ x :: (V ++ z :: T)).flatMap f := by
 have h := fset hf (U ++ x :: V) T y z
 rw [show (U ++ x :: V) ++ y :: T = U ++ x :: (V ++ y :: T) by simp, show (U ++ x :: V) ++ z :: T = U ++ x :: (V ++ z :: T) by simp, show (U ++ x :: V).length = U.length + 1 + V.length by simp; omega] at h
 exact h
end
theorem sz41 (x : HC) : (Try.prog.info? 41).map (·.size) = some (candC x).toArray.size := by rw [List.size_toArray, candC_len]; kernel_rfl
/-- What is asked of an order: it can be reckoned, of any one and one that lies ahead of it, in all later worlds. -/
def CmpOk (W : World) (X : List HC) (cz : HC → HC → Int) : Prop := ∀ k e y, X[k]? = some e → y ∈ X.take k → ∀ w, Below W.heap.size W w → Calls Try.prog 34 #[.agg (candC e).toArray, .agg (candC y).toArray] w fun en w' => en = .returned (.int .i64 (cz e y)) ∧ Ch [] w w'
abbrev ltz (cz : HC → HC → Int) (x y : HC) : Bool := decide (cz x y < 0)
theorem cmp_one (W : World) (x : HC) (cz : HC → HC → Int) : CmpOk W [x] cz := fun k e y h hy => by
 cases k with
 | zero => simp at hy
 | succ k => simp at h
end Go.Proofs.Ytmoelehhofmhcaa.V
