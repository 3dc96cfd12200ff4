/- The walks of iterators and of what collects, sorts, and chooses. -/
import Derived.Test.YtmoelehhofmhcaaPrI
namespace Go.Proofs.Ytmoelehhofmhcaa.V
open Go Go.RowKit Go.Proofs.Ytmoelehhofmhcaa.K Go.Proofs.YtmoelehhofmhcaaW.PrintLast
set_option linter.unusedVariables false
set_option linter.unusedSimpArgs false
set_option maxRecDepth 100000
set_option maxHeartbeats 1600000
section
variable {w : World}
theorem values_ {A : Option Addr} {c : Nat} {X : List HC}  :
  Calls Try.prog 33 #[.slice A X.length c] w fun en w' => ∃ B, en = .returned (.func (.func 38) #[] #[.pointer (some ⟨B, 0, none⟩)]) ∧ Blk w' B #[.slice A X.length c] 32 ∧ w.heap.size ≤ B ∧ Ch [] w w' := by
 have C0 := qh (Ch.refl [] w)
 go_enter Try.func33, Try.ntmps33
 refine q_ (fun Q hQ hP => ?_)
 refine s_ (fun K1 hK1 => ?_)
 refine ef_ (fun K2 hK2 => ?_)
 refine e_boxN (by rfl) rfl rfl (cs := #[.slice A X.length c]) (v := .slice A X.length c) (by rfl) rfl ?_
 rintro g3 w4 HG5 B6 C7
 have nw8 := qh (show w.heap.size ≤ g3 by have := C0.out.size; have := HG5.out; omega)
 replace C0 := qh (C0.out.trans' C7 inw_nil)
 have Fg3 := qh (show Blk w4 g3 (#[.slice A X.length c]) 32 from B6); clear B6 C7
 refine hK2 _ _ ?_; clear hK2 K2
 try simp only [zP,zN,zA,zB,zC]
 refine pu_ (v := .nilFunc) (y_assign rfl (by rfl) (by rfl)) ?_
 try simp only [zP,zN,zA,zB,zC]
 refine nl_ (hK1 _ _ ?_); clear hK1 K1
 refine s_ (fun K9 hK9 => ?_)
 refine pu_ (v := .func (.func 38) #[] #[.pointer (some ⟨g3, 0, none⟩)]) (y_run (by rfl) (fun W => by go_simp)) ?_
 try simp only [zP,zN,zA,zB,zC]
 refine pu_ (v := .func (.func 38) #[] #[.pointer (some ⟨g3, 0, none⟩)]) (y_assign rfl (by rfl) (by rfl)) ?_
 try simp only [zP,zN,zA,zB,zC]
 refine nl_ (hK9 _ _ ?_); clear hK9 K9
 refine wp_ret ?_
 refine hQ _ _ _ ?_
 refine bodyPost_ret (res1 rfl (rdv_tmp (v := .func (.func 38) #[] #[.pointer (some ⟨g3, 0, none⟩)]) (by rfl))) rfl ?_
 exact ⟨_, rfl, Fg3.out, nw8.out, C0.out⟩
theorem values1_ {L B : Nat} {J : Nat → World → Prop} {A : Option Addr} {c : Nat} {X : List HC} (HN : Hid (X.length ≤ 1000)) (HJC : Hid (∀ k W W', J k W → Ch [] W W' → J k W')) (HJB : Hid (∀ k W, J k W → Blk W B #[.slice A X.length c] 32 ∧ SrcIs W (.slice A X.length c) X.length (X.flatMap candC) 11)) (HY : Hid (∀ k x W, X[k]? = some x → J k W → YieldS Try.prog L #[.agg (candC x).toArray] W fun e W' => e = .returned (.bool true) ∧ J (k + 1) W')) (HJ0 : Hid (J 0 w))  :
  Calls Try.prog 38 #[.func (.yield L) #[] #[], .pointer (some ⟨B, 0, none⟩)] w fun en w' => (∃ v, en = .returned v) ∧ J X.length w' := by
 have C0 := qh (Ch.refl [] w)
 have FB := qh (HJB.out 0 w HJ0.out).1
 go_enter Try.func38, Try.ntmps38
 refine q_ (fun Q hQ hP => ?_)
 refine s_ (fun K1 hK1 => ?_)
 refine ld_ (v := .slice A X.length c) rfl (by rfl) (by rfl) (run_load_one ((FB.out.cell 0).trans rfl) Try.underlying32 rfl) ?_
 try simp only [zP,zN,zA,zB,zC]
 refine pu_ (v := .int .i64 X.length) (y_run (by rfl) (fun W => by go_simp)) ?_
 try simp only [zP,zN,zA,zB,zC]
 refine pu_ (v := .int .i64 0) (y_move rfl (by rfl) (by rfl)) ?_
 try simp only [zP,zN,zA,zB,zC]
 refine nl_ (hK1 _ _ ?_); clear hK1 K1
 refine wp_block ?_
 refine loopk_ (fun (kq : Nat) (a' : Act) (w' : World) => ∃ (k : Nat), ∃ (us : Nat → Value), a' = ⟨#[.func (.yield L) #[] #[], .pointer (some ⟨B, 0, none⟩), us 2, us 3, us 4, .slice A X.length c, .int .i64 X.length, .int .i64 k, us 8, us 9, us 10, us 11, us 12, us 13, us 14, us 15], []⟩ ∧ Hid (k ≤ X.length ∧ kq + k = X.length) ∧ Hid (J k w')) (X.length) (⟨0, fun us_ => (#[.func (.yield L) #[] #[], .pointer (some ⟨B, 0, none⟩), undef, undef, undef, .slice A X.length c, .int .i64 X.length, .int .i64 0, undef, undef, undef, undef, undef, undef, undef, undef] : Array Value).getD us_ undef, rfl, qh ⟨by omega, by omega⟩, qh (HJC.out _ _ _ HJ0.out C0.out)⟩) ?_
 rintro kq _ w2 ⟨k, us, rfl, hk, HJ⟩ K3 hK3
 rcases at_ways' hk.out.1 with ⟨x, ho0, hlt0⟩ | h
 ·have hlt := qh hlt0
  have ho := qh ho0
  clear hlt0 ho0
  have C1 := qh (Ch.refl [] w2)
  have SL := qh (HJB.out k _ HJ.out).2
  obtain ⟨a, hsm_a⟩ := src_some SL.out (by have := hlt.out; omega)
  subst hsm_a
  have D8 := qh (show (k : Int) < (X.length : Int) by have := hlt.out; omega)
  have Wk := qh (show IntKind.i64.wrap ((k : Int) + 1) = ((k + 1 : Nat) : Int) by rw [wr64 (by have := hlt.out; have h7 := HN.out; omega)]; omega)
  refine s_ (fun K4 hK4 => ?_)
  refine pu_ (v := .bool true) (y_run (by rfl) (fun W => by have d := D8.out; go_simp)) ?_
  try simp only [zP,zN,zA,zB,zC]
  refine nl_ (hK4 _ _ ?_); clear hK4 K4
  refine sq_ (fun K5 hK5 => ?_)
  refine wp_cond_true rfl ?_
  refine wp_skip ?_
  refine th_norm (hK5 _ _ ?_); try clear hK5 K5
  refine sq_ (fun K6 hK6 => ?_)
  refine wp_block ?_
  refine s_ (fun K7 hK7 => ?_)
  refine pu_ (v := .pointer (some (a.add (k * 11)))) (y_run (by rfl) (fun W => by have d := D8.out; go_simp)) ?_
  try simp only [zP,zN,zA,zB,zC]
  refine ld_ (v := .agg (candC x).toArray) rfl (by rfl) (by rfl) (run_loadVar_at (src_at candC_len SL.out ho.out) Try.underlying41 rfl (by rw [candC_len]; kernel_rfl)) ?_
  try simp only [zP,zN,zA,zB,zC]
  refine ef_ (fun K8 hK8 => ?_)
  refine e_alloc (by rfl) rfl rfl (cs := #[.int .i64 0, .string ⟨#[]⟩, .slice none 0 0, .slice none 0 0, .slice none 0 0, .int .i64 0, .int .i64 0, .int .i64 0, .int .i64 0, .int .i64 0, .int .i64 0]) (by kernel_rfl) ?_
  rintro g9 w10 HG11 B12 C13
  have nw14 := qh (show w2.heap.size ≤ g9 by have := C1.out.size; have := HG11.out; omega)
  have nx15 := qh (SL.out.ne_new (by decide) HG11)
  replace C1 := qh (C1.out.trans' C13 inw_nil)
  replace SL := qh (SL.out.chx C13 xnin_nil)
  have Fg9 := qh (show Blk w10 g9 (#[.int .i64 0, .string ⟨#[]⟩, .slice none 0 0, .slice none 0 0, .slice none 0 0, .int .i64 0, .int .i64 0, .int .i64 0, .int .i64 0, .int .i64 0, .int .i64 0]) 41 from B12); clear B12 C13
  refine hK8 _ _ ?_; clear hK8 K8
  try simp only [zP,zN,zA,zB,zC]
  refine ef_ (fun K16 hK16 => ?_)
  refine e_storeN (cells := (candC x).toArray) (by rfl) rfl rfl (by rfl) (by rfl) Fg9.out (sz41 x) (by rw [show (candC x).toArray.size = 11 by rw [List.size_toArray, candC_len]]; rfl) (by simpa using candC_one x) ?_
  rintro w17 B18 C19
  replace C1 := qh (C1.out.trans' C19 (inw_cons (.inr nw14.out) inw_nil))
  replace SL := qh (SL.out.chx C19 (xnin_cons nx15.out xnin_nil))
  clear Fg9; have Fg9 := qh (show Blk w17 g9 ((candC x).toArray) 41 from B18); clear B18 C19
  refine hK16 _ _ ?_; clear hK16 K16
  try simp only [zP,zN,zA,zB,zC]
  refine nl_ (hK7 _ _ ?_); clear hK7 K7
  refine sq_ (fun K20 hK20 => ?_)
  refine yregk_ 2 rfl rfl ?_
  refine pu_ (v := .func (.yield L) #[] #[]) (y_move rfl (by rfl) (by rfl)) ?_
  try simp only [zP,zN,zA,zB,zC]
  refine ld_ (v := .agg (candC x).toArray) rfl (by rfl) (by rfl) (run_loadVar_row _ _ 41 41 ((candC x).toArray) (0, 0) _ Fg9.out Try.underlying41 rfl (sz41 x)) ?_
  try simp only [zP,zN,zA,zB,zC]
  refine nl_ (only_ ?_)
  refine ⟨by rfl, _, _, _, _, #[.agg (candC x).toArray], rfl, by rfl, (by first | rfl | (simp only [List.map_toArray, List.map_cons, List.map_nil]; first | done | rfl)), ?_⟩
  refine (HY.out k x _ ho.out (HJC.out _ _ _ HJ.out C1.out)).mono ?_
  rintro _ w21 ⟨rfl, hj2⟩
  refine ⟨_, rfl, ?_⟩
  have HJ2 := qh hj2
  clear hj2
  try simp only [zP,zN,zA,zB,zC]
  refine pu_ (v := .bool false) (y_run (by rfl) (fun W => by go_simp)) ?_
  try simp only [zP,zN,zA,zB,zC]
  refine nl_ (th_norm (hK20 _ _ ?_)); clear hK20 K20
  refine wp_cond_false rfl ?_
  refine wp_skip ?_
  refine ib_norm ?_
  refine th_norm (hK6 _ _ ?_); try clear hK6 K6
  refine r_ ?_
  refine pu_ (v := .int .i64 (k + 1 : Nat)) (y_run (by rfl) (fun W => by have d := Wk.out; go_simp)) ?_
  try simp only [zP,zN,zA,zB,zC]
  refine pu_ (v := .int .i64 (k + 1 : Nat)) (y_move rfl (by rfl) (by rfl)) ?_
  try simp only [zP,zN,zA,zB,zC]
  refine nl_ ?_
  exact th_norm (hK3 (kq - 1) _ _ (by have := hlt.out; have := hk.out; omega) ⟨k + 1, fun us_ => (#[.func (.yield L) #[] #[], .pointer (some ⟨B, 0, none⟩), us 2, us 3, .pointer (some ⟨g9, 0, none⟩), .slice (some a) X.length c, .int .i64 X.length, .int .i64 (k + 1 : Nat), .bool true, .pointer (some (a.add (k * 11))), .agg (candC x).toArray, .func (.yield L) #[] #[], .agg (candC x).toArray, .bool true, .bool false, .int .i64 (k + 1 : Nat)] : Array Value).getD us_ undef, rfl, qh ⟨by have := hlt.out; omega, by have := hlt.out; have := hk.out; omega⟩, HJ2⟩)
 ·have D8 := qh (show ¬ k < X.length by have := hk.out; omega)
  have HE := qh h
  clear h
  refine s_ (fun K22 hK22 => ?_)
  refine pu_ (v := .bool false) (y_run (by rfl) (fun W => by have d := D8.out; go_simp)) ?_
  try simp only [zP,zN,zA,zB,zC]
  refine nl_ (hK22 _ _ ?_); clear hK22 K22
  refine sq_ (fun K23 hK23 => ?_)
  refine wp_cond_false rfl ?_
  refine wp_exit ?_
  refine th_exit ?_
  refine th_exit ?_
  refine ib_exit ?_
  refine hQ _ _ _ ?_
  refine bodyPost_end (res0 rfl) rfl ?_
  exact ⟨⟨_, rfl⟩, by have h9 := HJ.out; rw [HE.out] at h9; exact h9⟩
/-- An iterator that gives X, one by one, in all worlds that come of W0. -/
def IterOk (lb : Array Value) (X : List HC) (W0 : World) : Prop := ∀ (L : Nat) (J : Nat → World → Prop) (w : World), (∀ k W, J k W → Below W0.heap.size W0 W) → (∀ k W W', J k W → Ch [] W W' → J k W') →
 (∀ k x W, X[k]? = some x → J k W → YieldS Try.prog L #[.agg (candC x).toArray] W fun e W' => e = .returned (.bool true) ∧ J (k + 1) W') → J 0 w →
 Calls Try.prog 38 (#[.func (.yield L) #[] #[]] ++ lb) w fun e w' => (∃ v, e = .returned v) ∧ J X.length w'
theorem chBelow {w w' : World} (h : Below w.heap.size w w') : Ch [] w w' := ⟨h.os, h.tape, h.output, h.size, fun k hk _ => h.block k hk⟩
theorem values_iter {B : Nat} {A : Option Addr} {c : Nat} {X : List HC} {W0 : World} (hn : X.length ≤ 1000) (hb : Blk W0 B #[.slice A X.length c] 32) (hs : SrcIs W0 (.slice A X.length c) X.length (X.flatMap candC) 11) : IterOk #[.pointer (some ⟨B, 0, none⟩)] X W0 := fun L J w h1 h2 h3 h4 =>
 values1_ (qh hn) (qh h2) (qh (fun k W hj => ⟨(chBelow (h1 k W hj)).blk hb (by simp), hs.chx (chBelow (h1 k W hj)) xnin_nil⟩)) (qh h3) (qh h4)
/-- What stands between two rounds of AppendSeq. -/
def AppJ (wA : World) (X : List HC) (gs L D : Nat) (r : Loop) (k : Nat) (W : World) : Prop := ∃ vt, Blk W gs #[vt] 32 ∧ OwnS W wA.heap.size 41 11 vt k ((X.take k).flatMap candC) ∧ Rec W L r ∧ Dfr W D ∧ Ch [] wA W
theorem AppJ.ch {wA : World} {X : List HC} {gs L D : Nat} {r : Loop} {k : Nat} {W W' : World} (h : AppJ wA X gs L D r k W) (c : Ch [] W W') : AppJ wA X gs L D r k W' := by
 obtain ⟨vt, h1, h2, h3, h4, h5⟩ := h
 exact ⟨vt, c.blk h1 (by simp), h2.ch c (fun _ _ => by simp), h3.ch c (by simp), h4.ch c (by simp), h5.trans0 c⟩
theorem fill41 (x : HC) : Instr.fill (fun i => some (i * 11, 11)) ((Array.range (1 * 11)).map ((Value.agg #[.int .i64 0, .string ⟨#[]⟩, .slice none 0 0, .slice none 0 0, .slice none 0 0, .int .i64 0, .int .i64 0, .int .i64 0, .int .i64 0, .int .i64 0, .int .i64 0]).cells[· % (Value.agg #[.int .i64 0, .string ⟨#[]⟩, .slice none 0 0, .slice none 0 0, .slice none 0 0, .int .i64 0, .int .i64 0, .int .i64 0, .int .i64 0, .int .i64 0, .int .i64 0]).cells.size]!)) (#[(0, .agg (candC x).toArray)] : Array (Nat × Value)).toList = some (candC x).toArray := by
 obtain ⟨u, ⟨l, h1, h2⟩, c, m, p⟩ := x
 obtain ⟨s0, s1, s2, s3, s4, s5, s6, rfl⟩ := list7 h1
 kernel_rfl
theorem appseq_ {lb : Array Value} {X : List HC} {W0 : World} (HN : Hid (X.length ≤ 1000)) (HIT : Hid (IterOk lb X W0)) (HBW : Hid (Below W0.heap.size W0 w))  :
  Calls Try.prog 45 #[.slice none 0 0, .func (.func 38) #[] lb] w fun en w' => ∃ v', en = .returned v' ∧ OwnS w' w.heap.size 41 11 v' X.length (X.flatMap candC) ∧ Ch [] w w' := by
 have C0 := qh (Ch.refl [] w)
 obtain ⟨i41, I41⟩ := Info.of info41
 refine callsM_ Try.func45 rfl ?_
 simp only [Try.ntmps45, List.size_toArray, List.length_cons, List.length_nil, Nat.reduceAdd, Nat.reduceSub, Array.replicate_succ, Array.replicate_zero, List.push_toArray, List.append_toArray, List.nil_append, List.cons_append]
 refine qM_ (fun Q hQ => ?_)
 refine s_ (fun K1 hK1 => ?_)
 refine ef_ (fun K2 hK2 => ?_)
 refine e_boxN (by rfl) rfl rfl (cs := #[.slice none 0 0]) (v := .slice none 0 0) (by rfl) rfl ?_
 rintro gs w3 HG4 B5 C6
 have nw7 := qh (show w.heap.size ≤ gs by have := C0.out.size; have := HG4.out; omega)
 replace C0 := qh (C0.out.trans' C6 inw_nil)
 have Fgs := qh (show Blk w3 gs (#[.slice none 0 0]) 32 from B5); clear B5 C6
 refine hK2 _ _ ?_; clear hK2 K2
 try simp only [zP,zN,zA,zB,zC]
 refine pu_ (v := .slice none 0 0) (y_assign rfl (by rfl) (by rfl)) ?_
 try simp only [zP,zN,zA,zB,zC]
 refine nl_ (hK1 _ _ ?_); clear hK1 K1
 refine sq_ (fun K8 hK8 => ?_)
 refine s_ (fun K9 hK9 => ?_)
 refine pu_ (v := .func (.func 38) #[] lb) (y_move rfl (by rfl) (by rfl)) ?_
 try simp only [zP,zN,zA,zB,zC]
 refine nl_ (hK9 _ _ ?_); clear hK9 K9
 refine wp_block ?_
 refine rfunc_ (gf := 38) (lb := lb) (by rfl) Try.func38 (by kernel_rfl) rfl ?_
 rintro D L r w5 hD hL cc hDf hRc hr
 have hLn := qh (show w.heap.size ≤ L by have := hL.out; have := C0.out.size; omega)
 have hDn := qh (show w.heap.size ≤ D by have := hD.out; have := C0.out.size; omega)
 replace C0 := qh (C0.out.trans' cc inw_nil)
 replace Fgs := qh (cc.blk Fgs.out nin_nil)
 clear cc
 have RF := qh hRc
 have DF := qh hDf
 clear hRc hDf
 refine (HIT.out L (AppJ w X gs L D r) _ ?_ ?_ ?_ ?_).mono ?_
 ·exact fun k W h => by obtain ⟨vt, f1, f2, f3, f4, f5⟩ := h; exact HBW.out.trans (f5.below0.mono HBW.out.size)
 ·exact fun k W W' h c => h.ch c
 ·intro k x W hx hJ
  have ho := qh hx
  obtain ⟨vt, f1, f2, f3, f4, f5⟩ := hJ
  clear C0 RF DF Fgs hx
  have C0 := qh f5; have RF := qh f3; have DF := qh f4; have FS := qh f1; have OT := qh f2
  clear f1 f2 f3 f4 f5
  refine yield_ RF.out (by rw [hr.out.2.2.2.1]; rfl) hr.out.1 hr.out.2.1 hr.out.2.2.2.2.1 hr.out.2.2.2.2.2 (NoDefer.cons rfl (NoDefer.cons rfl NoDefer.nil)) (NoDefer.cons rfl (NoDefer.cons rfl (NoDefer.cons rfl (NoDefer.cons rfl (NoDefer.cons rfl NoDefer.nil))))) (by rw [hr.out.2.2.1, hr.out.2.2.2.1]; simp) (tmps := #[.slice none 0 0, .func (.func 38) #[] lb, .pointer (some ⟨gs, 0, none⟩), undef, .slice none 0 0, undef, .func (.func 38) #[] lb, .agg (candC x).toArray, undef, undef, undef, undef, undef]) (fun (a' : Act) (w' : World) => ∃ (gx : Nat), ∃ (vt : Value), ∃ (us : Nat → Value), a' = ⟨#[.slice none 0 0, .func (.func 38) #[] lb, .pointer (some ⟨gs, 0, none⟩), us 3, .slice none 0 0, .pointer (some ⟨gx, 0, none⟩), .func (.func 38) #[] lb, .agg (candC x).toArray, us 8, us 9, us 10, us 11, us 12], []⟩ ∧ Hid (Ch [] w w') ∧ Hid (Rec w' L r) ∧ Hid (Dfr w' D) ∧ Hid (Blk w' gs (#[vt]) 32) ∧ Hid (OwnS w' w.heap.size 41 11 (vt) (k) ((X.take k).flatMap candC)) ∧ Hid (Blk w' gx ((candC x).toArray) 41) ∧ Hid (gx ∉ rl vt)) (fun (a' : Act) (w' : World) => ∃ (gx : Nat), ∃ (vt : Value), ∃ (us : Nat → Value), a' = ⟨#[.slice none 0 0, .func (.func 38) #[] lb, .pointer (some ⟨gs, 0, none⟩), us 3, .slice none 0 0, .pointer (some ⟨gx, 0, none⟩), .func (.func 38) #[] lb, .agg (candC x).toArray, us 8, us 9, us 10, us 11, us 12], []⟩ ∧ Hid (Ch [] w w') ∧ Hid (Rec w' L { r with state := .busy }) ∧ Hid (Dfr w' D) ∧ Hid (Blk w' gs (#[vt]) 32) ∧ Hid (OwnS w' w.heap.size 41 11 (vt) (k + 1) ((X.take (k + 1)).flatMap candC))) ?_ ?_ ?_
  ·refine ef_ (fun K10 hK10 => ?_)
   refine e_alloc (by rfl) rfl rfl (cs := #[.int .i64 0, .string ⟨#[]⟩, .slice none 0 0, .slice none 0 0, .slice none 0 0, .int .i64 0, .int .i64 0, .int .i64 0, .int .i64 0, .int .i64 0, .int .i64 0]) (by kernel_rfl) ?_
   rintro g11 w12 HG13 B14 C15
   have nw16 := qh (show w.heap.size ≤ g11 by have := C0.out.size; have := HG13.out; omega)
   have nr17 := qh (OT.out.ne_new HG13)
   replace C0 := qh (C0.out.trans' C15 inw_nil)
   replace RF := qh (RF.out.ch C15 nin_nil)
   replace DF := qh (DF.out.ch C15 nin_nil)
   replace FS := qh (C15.blk FS.out nin_nil)
   replace OT := qh (OT.out.ch C15 rnin_nil)
   have Fg11 := qh (show Blk w12 g11 (#[.int .i64 0, .string ⟨#[]⟩, .slice none 0 0, .slice none 0 0, .slice none 0 0, .int .i64 0, .int .i64 0, .int .i64 0, .int .i64 0, .int .i64 0, .int .i64 0]) 41 from B14); clear B14 C15
   refine hK10 _ _ ?_; clear hK10 K10
   try simp only [zP,zN,zA,zB,zC]
   refine ef_ (fun K18 hK18 => ?_)
   refine e_storeN (cells := (candC x).toArray) (by rfl) rfl rfl (by rfl) (by rfl) Fg11.out (sz41 x) (by rw [show (candC x).toArray.size = 11 by rw [List.size_toArray, candC_len]]; rfl) (by simpa using candC_one x) ?_
   rintro w19 B20 C21
   replace C0 := qh (C0.out.trans' C21 (inw_cons (.inr nw16.out) inw_nil))
   replace RF := qh (RF.out.ch C21 (nin_cons (Ne.symm (RF.out.ne Fg11.out)) nin_nil))
   replace DF := qh (DF.out.ch C21 (nin_cons (Ne.symm (DF.out.ne Fg11.out)) nin_nil))
   replace FS := qh (C21.blk FS.out (nin_cons (Blk.ne_type FS.out Fg11.out (by decide)) nin_nil))
   replace OT := qh (OT.out.ch C21 (rnin_cons nr17.out rnin_nil))
   clear Fg11; have Fg11 := qh (show Blk w19 g11 ((candC x).toArray) 41 from B20); clear B20 C21
   refine hK18 _ _ ?_; clear hK18 K18
   try simp only [zP,zN,zA,zB,zC]
   refine nl_ (only_ ?_)
   exact ⟨_, _, fun us_ => (#[.slice none 0 0, .func (.func 38) #[] lb, .pointer (some ⟨gs, 0, none⟩), undef, .slice none 0 0, .pointer (some ⟨g11, 0, none⟩), .func (.func 38) #[] lb, .agg (candC x).toArray, undef, undef, undef, undef, undef] : Array Value).getD us_ undef, rfl, C0, RF, DF, FS, OT, Fg11, nr17⟩
  ·rintro _ w8 ⟨gx, vt, us, rfl, C0, RF, DF, FS, OT, FX, hgr⟩
   refine ⟨RF.out, fun w9 c9 hb9 => ?_⟩
   replace C0 := qh (C0.out.trans' c9 (inw_cons (.inr hLn.out) inw_nil))
   replace DF := qh (DF.out.ch c9 (nin_cons (DF.out.nl RF.out) nin_nil))
   replace FS := qh (c9.blk FS.out (nin_cons (RF.out.ne FS.out) nin_nil))
   replace OT := qh (OT.out.ch c9 (rnin_cons (RF.out.nr OT.out) rnin_nil))
   replace FX := qh (c9.blk FX.out (nin_cons (RF.out.ne FX.out) nin_nil))
   clear RF c9
   have RF := qh hb9
   clear hb9
   have HKN := qh (show k < 1000 by have := HN.out; have := (List.getElem?_eq_some_iff.1 ho.out).1; omega)
   refine ld_ (v := vt) rfl (by rfl) (by rfl) (run_load_one ((FS.out.cell 0).trans rfl) Try.underlying32 rfl) ?_
   try simp only [zP,zN,zA,zB,zC]
   refine ld_ (v := .agg (candC x).toArray) rfl (by rfl) (by rfl) (run_loadVar_row _ _ 41 41 ((candC x).toArray) (0, 0) _ FX.out Try.underlying41 rfl (sz41 x)) ?_
   try simp only [zP,zN,zA,zB,zC]
   refine ef_ (fun K22 hK22 => ?_)
   refine e_buildS (parts := #[(0, .agg (candC x).toArray)]) (cells := (candC x).toArray) (by rfl) rfl rfl (by first | rfl | (simp only [List.map_toArray, List.map_cons, List.map_nil]; first | done | rfl)) Try.underlying32 I41.hi I41.hz I41.hs (by decide) (by decide) (fill41 x) ?_
   rintro g23 w24 HG25 B26 C27
   have nw28 := qh (show w.heap.size ≤ g23 by have := C0.out.size; have := HG25.out; omega)
   have nr29 := qh (OT.out.ne_new HG25)
   have ne30 := qh (FX.out.ne_new HG25)
   replace C0 := qh (C0.out.trans' C27 inw_nil)
   replace RF := qh (RF.out.ch C27 nin_nil)
   replace DF := qh (DF.out.ch C27 nin_nil)
   replace FS := qh (C27.blk FS.out nin_nil)
   replace OT := qh (OT.out.ch C27 rnin_nil)
   replace FX := qh (C27.blk FX.out nin_nil)
   have Fg23 := qh (show Blk w24 g23 ((candC x).toArray) 41 from B26); clear B26 C27
   refine hK22 _ _ ?_; clear hK22 K22
   try simp only [zP,zN,zA,zB,zC]
   refine ef_ (fun K31 hK31 => ?_)
   refine e_append (by rfl) rfl rfl (w.heap.size) 41 _ _ 11 144 Try.underlying32 I41.hi I41.hz I41.hs I41.hb rfl (by decide) (vt) (k) ((X.take k).flatMap candC) (by rfl) OT.out (.slice (some ⟨g23, 0, none⟩) 1 1) 1 (candC x) (by rfl) ⟨candC_len x, .inr ⟨_, _, rfl, by have h9 := CellsAt.blk Fg23.out 0; simpa using h9⟩⟩ (candC_one x) (by unfold maxLen; have := HKN.out; omega) (by have := HKN.out; omega) C0.out.size ?_
   rintro v32 w33 O34 C35 R36 -
   have nr38 := qh (show gx ∉ rl v32 from fun hk => (R36 _ hk).elim hgr.out (fun h => by have := FX.out.lt; omega))
   have nr39 := qh (show g23 ∉ rl v32 from fun hk => (R36 _ hk).elim nr29.out (fun h => by have := Fg23.out.lt; omega))
   replace C0 := qh (C0.out.trans' C35 (fun x hx => .inr (OT.out.lt x hx).1))
   replace RF := qh (RF.out.ch C35 (RF.out.nr OT.out))
   replace DF := qh (DF.out.ch C35 (DF.out.nr OT.out))
   replace FS := qh (C35.blk FS.out (OT.out.ne FS.out (by decide)))
   replace FX := qh (C35.blk FX.out hgr.out)
   replace Fg23 := qh (C35.blk Fg23.out nr29.out)
   clear OT
   have OT := qh (show OwnS w33 w.heap.size 41 11 (v32) (k + 1) ((X.take k).flatMap candC ++ candC x) from O34); clear O34 C35
   refine hK31 _ _ ?_; clear hK31 K31
   try simp only [zP,zN,zA,zB,zC]
   refine ef_ (fun K40 hK40 => ?_)
   refine e_store1 (b := gs) (j := 0) (v := v32) (by rfl) rfl rfl (by rfl) (by rfl) FS.out (show 0 < 1 by omega) (by kernel_rfl) OT.out.one ?_
   rintro w41 B42 C43
   replace C0 := qh (C0.out.trans' C43 (inw_cons (.inr nw7.out) inw_nil))
   replace RF := qh (RF.out.ch C43 (nin_cons (Ne.symm (RF.out.ne FS.out)) nin_nil))
   replace DF := qh (DF.out.ch C43 (nin_cons (Ne.symm (DF.out.ne FS.out)) nin_nil))
   replace OT := qh (OT.out.ch C43 (rnin_cons (OT.out.ne FS.out (by decide)) rnin_nil))
   replace FX := qh (C43.blk FX.out (nin_cons (Blk.ne_type FX.out FS.out (by decide)) nin_nil))
   replace Fg23 := qh (C43.blk Fg23.out (nin_cons (Blk.ne_type Fg23.out FS.out (by decide)) nin_nil))
   clear FS; have FS := qh (show Blk w41 gs (#[v32]) 32 from B42); clear B42 C43
   refine hK40 _ _ ?_; clear hK40 K40
   try simp only [zP,zN,zA,zB,zC]
   refine nl_ (only_ ?_)
   exact ⟨_, _, fun us_ => (#[.slice none 0 0, .func (.func 38) #[] lb, .pointer (some ⟨gs, 0, none⟩), us 3, .slice none 0 0, .pointer (some ⟨gx, 0, none⟩), .func (.func 38) #[] lb, .agg (candC x).toArray, vt, .agg (candC x).toArray, .slice (some ⟨g23, 0, none⟩) 1 1, v32, us 12] : Array Value).getD us_ undef, rfl, C0, RF, DF, FS, qh (by have h9 := OT.out; rw [take_snoc ho.out, List.flatMap_append, List.flatMap_cons, List.flatMap_nil, List.append_nil]; exact h9)⟩
  ·rintro _ w8 ⟨gx, vt, us, rfl, C0, RF, DF, FS, OT⟩
   refine ⟨RF.out, fun w9 c9 hb9 => ⟨rfl, ?_⟩⟩
   replace C0 := qh (C0.out.trans' c9 (inw_cons (.inr hLn.out) inw_nil))
   replace DF := qh (DF.out.ch c9 (nin_cons (DF.out.nl RF.out) nin_nil))
   replace FS := qh (c9.blk FS.out (nin_cons (RF.out.ne FS.out) nin_nil))
   replace OT := qh (OT.out.ch c9 (rnin_cons (RF.out.nr OT.out) rnin_nil))
   exact ⟨_, FS.out, OT.out, hb9, DF.out, C0.out⟩
 ·exact ⟨_, Fgs.out, OwnS.nil _ _ _ _ _, RF.out, DF.out, C0.out⟩
 ·rintro en w8 ⟨hv, vt, f1, f2, f3, f4, f5⟩
  clear C0 RF DF Fgs
  have C0 := qh f5; have RF := qh f3; have DF := qh f4; have FS := qh f1; have OT := qh f2
  clear f1 f2 f3 f4 f5
  refine ⟨hv, RF.out, fun w9 c9 => ?_⟩
  replace C0 := qh (C0.out.trans' c9 (inw_cons (.inr hLn.out) inw_nil))
  replace DF := qh (DF.out.ch c9 (nin_cons (DF.out.nl RF.out) nin_nil))
  replace FS := qh (c9.blk FS.out (nin_cons (RF.out.ne FS.out) nin_nil))
  replace OT := qh (OT.out.ch c9 (rnin_cons (RF.out.nr OT.out) rnin_nil))
  clear RF c9
  refine ib_norm ?_
  refine th_norm (hK8 _ _ ?_); try clear hK8 K8
  refine s_ (fun K44 hK44 => ?_)
  refine ld_ (v := vt) rfl (by rfl) (by rfl) (run_load_one ((FS.out.cell 0).trans rfl) Try.underlying32 rfl) ?_
  try simp only [zP,zN,zA,zB,zC]
  refine pu_ (v := vt) (y_assign rfl (by rfl) (by rfl)) ?_
  try simp only [zP,zN,zA,zB,zC]
  refine nl_ (hK44 _ _ ?_); clear hK44 K44
  refine wp_ret ?_
  refine hQ _ _ _ (retM_ (D := D) (v := vt) rfl DF.out (fun W => res1 rfl (rdv_tmp (v := vt) (by rfl))) (fun w45 cc46 => ?_))
  replace C0 := qh (C0.out.trans' cc46 (inw_cons (.inr hDn.out) inw_nil))
  replace FS := qh (cc46.blk FS.out (nin_cons (DF.out.ne FS.out) nin_nil))
  replace OT := qh (OT.out.ch cc46 (rnin_cons (DF.out.nr OT.out) rnin_nil))
  exact ⟨_, rfl, by have h9 := OT.out; rw [List.take_length] at h9; exact h9, C0.out⟩
end
end Go.Proofs.Ytmoelehhofmhcaa.V
