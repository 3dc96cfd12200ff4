/- Frames of a stream: what they are, what a splitter finds in front of it. -/
import Derived.Test.YtfbecehinloldaaPFrameOncex1
import Derived.Laws.BitsLemmas
namespace Go.Proofs.Ytfbecehinloldaa.V
open Go Go.RowKit Go.Proofs.Ytfbecehinloldaa.PFrameOnce Go.Proofs.YtfbecehinloldaaW.PrintWords
set_option linter.unusedVariables false
set_option linter.unusedSimpArgs false
abbrev E0 : ByteArray := ⟨#[]⟩
theorem W64 (x : Int) (h1 : -9223372036854775808 ≤ x) (h2 : x ≤ 9223372036854775807) : wrap64 x = x := by unfold wrap64; omega
def lst (s : ByteArray) : List UInt8 := s.data.toList
theorem lst_inj {a b : ByteArray} (h : lst a = lst b) : a = b := by
  cases a; cases b
  simp only [lst, Array.toList_inj] at h
  rw [h]
theorem lst_app (a b : ByteArray) : lst (a ++ b) = lst a ++ lst b := by unfold lst; exact ByteArray.toList_data_append
theorem lst_len (a : ByteArray) : (lst a).length = a.size := by unfold lst; rw [Array.length_toList]; rfl
theorem dsz (a : ByteArray) : a.data.toList.length = a.size := lst_len a
theorem app_cases {a b c d : ByteArray} (h : a ++ b = c ++ d) (hs : c.size ≤ a.size) : ∃ x, a = c ++ x ∧ d = x ++ b := by
  have h1 : lst a ++ lst b = lst c ++ lst d := by rw [← lst_app, ← lst_app, h]
  rcases List.append_eq_append_iff.1 h1 with ⟨z, e1, e2⟩ | ⟨z, e1, e2⟩
  · have h2 := congrArg List.length e1
    rw [List.length_append, lst_len, lst_len] at h2
    have h3 : z = [] := List.length_eq_zero_iff.1 (by omega)
    subst h3
    refine ⟨E0, lst_inj ?_, lst_inj ?_⟩
    · rw [lst_app, e1]; simp [lst]
    · rw [lst_app, e2]; simp [lst]
  · refine ⟨⟨z.toArray⟩, lst_inj ?_, lst_inj ?_⟩
    · rw [lst_app, e1]; simp [lst]
    · rw [lst_app, e2]; simp [lst]
theorem app_nil (a : ByteArray) : a ++ E0 = a := lst_inj (by rw [lst_app]; simp [lst])
theorem nil_app (a : ByteArray) : E0 ++ a = a := lst_inj (by rw [lst_app]; simp [lst])
theorem size_zero {a : ByteArray} (h : a.size = 0) : a = E0 := lst_inj (by have := lst_len a; rw [h] at this; rw [List.length_eq_zero_iff.1 this]; rfl)
theorem ext_all (a : ByteArray) : a.extract 0 a.size = a := lst_inj (by simp only [lst, ByteArray.data_extract, Array.toList_extract, List.extract_eq_take_drop, List.drop_zero, Nat.sub_zero]; rw [List.take_of_length_le (by rw [dsz]; exact Nat.le_refl _)])
theorem ext_parts (a : ByteArray) (n : Nat) (h : n ≤ a.size) : a.extract 0 n ++ a.extract n a.size = a := by
  apply lst_inj
  rw [lst_app]
  simp only [lst, ByteArray.data_extract, Array.toList_extract, List.extract_eq_take_drop, List.drop_zero, Nat.sub_zero]
  rw [List.take_of_length_le (l := a.data.toList.drop n) (by rw [List.length_drop, dsz]; exact Nat.le_refl _)]
  exact List.take_append_drop _ _
theorem ext_end (a : ByteArray) : a.extract a.size a.size = E0 := size_zero (by rw [ByteArray.size_extract]; omega)
theorem ext_front (a b : ByteArray) (i n : Nat) (h : n = a.size) : (a ++ b).extract n (a ++ b).size = b := by
  subst h
  have h1 := ext_parts (a ++ b) a.size (by rw [ByteArray.size_append]; omega)
  obtain ⟨x, e1, e2⟩ := app_cases h1 (by rw [ByteArray.size_extract, ByteArray.size_append]; omega)
  have h3 := congrArg ByteArray.size e1
  rw [ByteArray.size_append, ByteArray.size_extract, ByteArray.size_append] at h3
  rw [size_zero (a := x) (by omega), nil_app] at e2
  exact e2.symm
theorem ext_mid (a b c : ByteArray) (i n : Nat) (hi : i = a.size) (hn : n = a.size + b.size) : ((a ++ b) ++ c).extract i n = b := by
  subst hi hn
  apply lst_inj
  simp only [lst, ByteArray.data_extract, ByteArray.data_append, Array.toList_extract, Array.toList_append, List.extract_eq_take_drop]
  have e1 : a.size = a.data.toList.length := (dsz _).symm
  have e2 : b.size = b.data.toList.length := (dsz _).symm
  rw [e1, e2, List.append_assoc, List.drop_left, Nat.add_sub_cancel_left, List.take_left]
theorem bt_eq (s : ByteArray) (i : Int) : bt s i = ((((lst s)[i.toNat]?).map (fun b : UInt8 => (b.toNat : Int))).getD 0) := by
  unfold bt lst
  split
  · rename_i h
    rw [List.getElem?_eq_getElem (by rw [dsz]; exact h)]
    simp [ByteArray.getElem_eq_getElem_data]
  · rename_i h
    rw [List.getElem?_eq_none (by rw [dsz]; omega)]
    rfl
theorem bt_app (a b : ByteArray) (i : Int) (h : i.toNat < a.size) : bt (a ++ b) i = bt a i := by
  rw [bt_eq, bt_eq, lst_app, List.getElem?_append_left (by rw [lst_len]; exact h)]
/-- A text's frame. -/
def hdr (n : Nat) : ByteArray := strOfNums [(n : Int) % 256, ((n : Int) / 256) % 256]
def frm (t : ByteArray) : ByteArray := hdr t.size ++ t
theorem hdr_size (n : Nat) : (hdr n).size = 2 := by unfold hdr; rw [strOfNums_size]; rfl
theorem frm_size (t : ByteArray) : (frm t).size = t.size + 2 := by unfold frm; rw [ByteArray.size_append, hdr_size]; omega
def cat : List ByteArray → ByteArray
  | [] => E0
  | t :: l => frm t ++ cat l
def Smalls (l : List ByteArray) : Prop := ∀ t ∈ l, t.size ≤ 400
theorem cat_size : ∀ {l : List ByteArray}, Smalls l → (cat l).size ≤ l.length * 402
  | [], _ => Nat.zero_le _
  | t :: l, h => by
    have h1 := cat_size (l := l) (fun x hx => h x (List.mem_cons_of_mem _ hx))
    have h2 := h t List.mem_cons_self
    simp only [cat, ByteArray.size_append, frm_size, List.length_cons]
    omega
theorem cat_app : ∀ (l m : List ByteArray), cat (l ++ m) = cat l ++ cat m
  | [], m => by simp only [List.nil_append, cat]; rw [nil_app]
  | t :: l, m => by simp only [List.cons_append, cat]; rw [cat_app l m, ByteArray.append_assoc]
theorem cat_snoc (l : List ByteArray) (t : ByteArray) : cat (l ++ [t]) = cat l ++ frm t := by rw [cat_app]; simp only [cat]; rw [app_nil]
/-- No whole frame: a part of the next one. -/
def Short (r : ByteArray) (D : List ByteArray) : Prop := ∃ v, r ++ v = cat D ∧ Smalls D ∧ ∀ t, D.head? = some t → r.size < t.size + 2
theorem parse : ∀ (D : List ByteArray) (u v : ByteArray), Smalls D → u ++ v = cat D → ∃ m r, m ≤ D.length ∧ u = cat (D.take m) ++ r ∧ r ++ v = cat (D.drop m) ∧ Short r (D.drop m)
  | [], u, v, hs, h => ⟨0, u, Nat.le_refl _, by simp only [List.take_zero, cat]; rw [nil_app], h, v, h, hs, fun t ht => by simp at ht⟩
  | t :: D, u, v, hs, h => by
    by_cases hu : u.size < t.size + 2
    · exact ⟨0, u, Nat.zero_le _, by simp only [List.take_zero, cat]; rw [nil_app], h, v, h, hs, fun x hx => by simp at hx; subst hx; exact hu⟩
    · obtain ⟨x, e1, e2⟩ := app_cases (c := frm t) (d := cat D) h (by rw [frm_size]; omega)
      obtain ⟨m, r, h1, h2, h3, h4⟩ := parse D x v (fun y hy => hs y (List.mem_cons_of_mem _ hy)) e2.symm
      refine ⟨m + 1, r, by simp; omega, ?_, h3, h4⟩
      rw [e1, h2]
      simp only [List.take_succ_cons, cat]
      rw [ByteArray.append_assoc]
theorem bt_hdr (n : Nat) (hn : n ≤ 400) (z : ByteArray) : bt (hdr n ++ z) 0 = (n : Int) % 256 ∧ bt (hdr n ++ z) 1 = (n : Int) / 256 := by
  have h1 : n / 256 < 256 := by omega
  constructor
  · rw [bt_app _ _ _ (by rw [hdr_size]; decide), bt_eq]
    show ((UInt8.ofNat ((n : Int) % 256).toNat).toNat : Int) = _
    rw [UInt8.toNat_ofNat']
    omega
  · rw [bt_app _ _ _ (by rw [hdr_size]; decide), bt_eq]
    show ((UInt8.ofNat (((n : Int) / 256) % 256).toNat).toNat : Int) = _
    rw [UInt8.toNat_ofNat']
    omega
theorem or_hdr (n : Nat) (hn : n ≤ 400) : Go.bits .or .i64 ((n : Int) % 256) ((n : Int) / 256 * 256) = n := by
  have h := (Go.bits_nat .i64 16 (by decide) (fun n h0 h1 => by rw [Go.IntKind.wrap_i64]; omega) (n % 256) (n / 256 * 256) (by omega) (by omega)).2
  rw [show ((n % 256 : Nat) : Int) = (n : Int) % 256 by omega, show ((n / 256 * 256 : Nat) : Int) = (n : Int) / 256 * 256 by omega] at h
  rw [h]
  congr 1
  have := Nat.two_pow_add_eq_or_of_lt (i := 8) (b := n % 256) (Nat.mod_lt _ (by decide)) (n / 256)
  rw [Nat.or_comm, Nat.mul_comm, ← this]
  omega
theorem next_full (t s : ByteArray) (ht : t.size ≤ 400) (hs : t.size + s.size ≤ 8192) : frame_Split_Next.f (frm t ++ s) false = some (t, 0, s, false) := by
  have hz : (frm t ++ s).size = t.size + 2 + s.size := by rw [ByteArray.size_append, frm_size]
  obtain ⟨b0, b1⟩ : bt (frm t ++ s) 0 = (t.size : Int) % 256 ∧ bt (frm t ++ s) 1 = (t.size : Int) / 256 := by
    unfold frm; rw [ByteArray.append_assoc]; exact bt_hdr _ ht _
  unfold frame_Split_Next.f
  rw [if_neg (by simp), hz, if_neg (by omega), if_pos (by omega), if_pos (by omega), b0, b1, W64 ((t.size : Int) % 256) (by omega) (by omega), W64 ((t.size : Int) / 256) (by omega) (by omega), W64 ((t.size : Int) / 256 * 256) (by omega) (by omega), or_hdr _ ht]
  rw [if_neg (by omega), W64 _ (by omega) (by omega), if_neg (by omega), W64 _ (by omega) (by omega), if_pos (by omega), if_pos (by omega), if_pos (by omega)]
  have e1 : (frm t ++ s).extract 2 ((2 + (t.size : Int)).toNat) = t := by unfold frm; exact ext_mid _ _ _ _ _ (hdr_size _).symm (by rw [hdr_size]; omega)
  have e2 : (frm t ++ s).extract ((2 + (t.size : Int)).toNat) (t.size + 2 + s.size) = s := by rw [← hz]; exact ext_front _ _ 0 _ (by rw [frm_size]; omega)
  rw [e1, e2]
theorem next_short {r : ByteArray} {D : List ByteArray} (h : Short r D) : frame_Split_Next.f r false = some (E0, 6, r, false) := by
  obtain ⟨v, h1, h2, h3⟩ := h
  unfold frame_Split_Next.f
  rw [if_neg (by simp)]
  by_cases hr : (r.size : Int) < 2
  · rw [if_pos hr]
  · rw [if_neg hr, if_pos (by omega), if_pos (by omega)]
    cases D with
    | nil =>
      have := congrArg ByteArray.size h1
      rw [ByteArray.size_append] at this
      have h9 : (cat []).size = 0 := rfl
      omega
    | cons t D =>
      have ht := h2 t List.mem_cons_self
      have hl := h3 t rfl
      obtain ⟨b0, b1⟩ : bt (r ++ v) 0 = (t.size : Int) % 256 ∧ bt (r ++ v) 1 = (t.size : Int) / 256 := by
        rw [h1]; simp only [cat]; unfold frm; rw [ByteArray.append_assoc]; exact bt_hdr _ ht _
      rw [bt_app _ _ _ (by simp; omega)] at b0 b1
      rw [b0, b1, W64 ((t.size : Int) % 256) (by omega) (by omega), W64 ((t.size : Int) / 256) (by omega) (by omega), W64 ((t.size : Int) / 256 * 256) (by omega) (by omega), or_hdr _ ht]
      rw [if_neg (by omega), W64 _ (by omega) (by omega), if_pos (by omega)]
theorem feed_ok (s a : ByteArray) (h : s.size + a.size ≤ 8192) : frame_Split_Feed.f s false a = some (0, s ++ a, false) := by
  unfold frame_Split_Feed.f
  rw [if_neg (by simp), W64 _ (by omega) (by omega), if_neg (by omega), if_pos (by omega)]
theorem put_ok (t : ByteArray) (h : t.size ≤ 400) : frame_Put.f t = some (frm t, 0) := by
  unfold frame_Put.f
  rw [if_neg (by omega)]
  simp only [Option.bind_some]
  rw [if_pos (by rw [strOfNums_size]; simp; omega)]
  rfl
theorem works_ok : provostlaw05_works.f = some true := by kernel_rfl
/-- At most 400 bytes. -/
def cutT (s : ByteArray) : ByteArray := if s.size > 400 then s.extract 0 400 else s
theorem cutT_size (s : ByteArray) : (cutT s).size ≤ 400 := by
  unfold cutT
  split
  · rw [ByteArray.size_extract]; omega
  · omega
theorem short_nil {r : ByteArray} {D : List ByteArray} (h : Short r D) (he : r = cat D) : D = [] ∧ r = E0 := by
  obtain ⟨v, h1, h2, h3⟩ := h
  cases D with
  | nil => exact ⟨rfl, he⟩
  | cons t D =>
    have := h3 t rfl
    rw [he] at this
    simp only [cat, ByteArray.size_append, frm_size] at this
    omega
end Go.Proofs.Ytfbecehinloldaa.V
