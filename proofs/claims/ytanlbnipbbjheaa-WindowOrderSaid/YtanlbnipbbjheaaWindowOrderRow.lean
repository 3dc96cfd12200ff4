/- The row of the law WindowOrder: whatever the input, the Go function returns true and leaves what was there as it was; out of its walk. -/
import Derived.Test.YtanlbnipbbjheaaWindowOrderWalk
import Derived.Test.YtanlbnipbbjheaaRows
import Derived.Test.YtanlbnipbbjheaaKit2
import Derived.WalkKit
import Derived.ProofKit
import Derived.OpenShut
import Derived.ShutString
import Derived.ChangeOld
import Derived.Below
namespace Go.Proofs.Ytanlbnipbbjheaa.windowOrder
open Go.ChangeShapes Go.WideShapes Go.ChangeAt Go.RowKit Go.Proofs.Ytanlbnipbbjheaa.K
open Go.ChangeMaps (open_string shut_string)
set_option linter.unusedVariables false
theorem own : ownKnob Try.prog.godebug = none := by kernel_rfl
theorem laidOut : laidOutB Try.prog = true := by kernel_rfl
set_option maxRecDepth 100000 in
theorem lifted (os : Os) (started : os.Started) (H : Type) (enc : TypeId × Value → H) :
    ReturnsInHanded {} Try.checked os 6 .any (Rows.windowOrderSpec.pre6 enc Try.prog Try.f6 Rows.windowOrderRow.domain false) (Rows.windowOrderSpec.post enc Try.prog Try.f6 false true false false) := by
  refine returnsInHanded_of_change (C := Try.checked) own started (by kernel_rfl) Try.func6
    (ChangeSpec.witness6 (enc := enc) (C := Try.checked) false ⟨#[], #[.slice none 0 0], []⟩ 8 (by kernel_rfl) (by kernel_rfl) (by kernel_rfl) (by kernel_rfl)) ?_
  intro W base args ds gs before hval0 hW hcnd _
  have hval : ∀ (j : Nat) t v, Try.f6.params[j]? = some t → args[j]? = some v → Value.okWide Try.prog W .any base t v := hval0
  have hW' := hW
  obtain ⟨p, q, hA0, hV, rfl, hfz, hnd⟩ := hW
  have hA : DataW.TrodAll enc Try.prog W 0 (fun _ => true) true Try.f6.params.toList args.toList ds p := hA0
  rw [Try.params6] at hA hval
  obtain ⟨v0, vs0, d0, ds0, p0, q0, hargs, rfl, rfl, h0, r0⟩ := trodAll_cons hA
  obtain ⟨rfl, rfl, rfl⟩ := trodAll_nil r0
  obtain rfl : args = #[v0] := by cases args; simp_all
  obtain ⟨rfl, rfl⟩ := trodVars_none hV
  obtain ⟨a0, len0, cap0, rfl⟩ := okWide_slice Try.underlying38 (hval 0 38 v0 rfl rfl)
  have k0 := h0
  have lt0 : ∀ x ∈ p0, x.block < W.heap.size := by obtain ⟨m, hm⟩ := k0; exact DataW.trod_lt m _ _ _ hm
  have w0 : len0 = 0 ∨ ∃ b off, a0 = some ⟨b, off, none⟩ ∧ b < W.heap.size ∧ ∀ i, i < len0 → (∃ z : Int, W.cell? ⟨b, off + (i * 3 + 0), none⟩ = some (.int .i64 z) ∧ (Lit.int .i64 z).wf = true) ∧ (∃ z : Int, W.cell? ⟨b, off + (i * 3 + 1), none⟩ = some (.int .i64 z) ∧ (Lit.int .i64 z).wf = true) ∧ (∃ z : Int, W.cell? ⟨b, off + (i * 3 + 2), none⟩ = some (.int .u64 z) ∧ (Lit.int .u64 z).wf = true) := by
    obtain ⟨fuel, hf⟩ := h0
    rcases open_rows Try.underlying38 Try.underlying46 (by kernel_rfl) (by kernel_rfl) (by decide) (by simpa [Value.cells] using hf) with h | ⟨b, off, h1, h2, h3⟩
    · exact .inl h
    · refine .inr ⟨b, off, h1, h2, fun i hi => ?_⟩
      obtain ⟨n, hr⟩ := h3 i hi
      obtain ⟨v0_, y0_, e0_, t0_⟩ := hr 0 _ rfl
      obtain ⟨z0_, rfl, g0_⟩ := cell_int (t := 3) Try.underlying3 t0_
      obtain ⟨v1_, y1_, e1_, t1_⟩ := hr 1 _ rfl
      obtain ⟨z1_, rfl, g1_⟩ := cell_int (t := 3) Try.underlying3 t1_
      obtain ⟨v2_, y2_, e2_, t2_⟩ := hr 2 _ rfl
      obtain ⟨z2_, rfl, g2_⟩ := cell_int (t := 42) Try.underlying42 t2_
      exact ⟨⟨z0_, e0_, g0_⟩, ⟨z1_, e1_, g1_⟩, ⟨z2_, e2_, g2_⟩⟩
  clear hA0 hval0
  refine (windowOrderWalk.walk a0 len0 cap0 W w0).mono fun e W' ⟨he, bel⟩ => ?_
  subst he
  exact ⟨_, rfl, _, _, _, [], _, [], hW', trodAll_mk1 (shut_bool Try.underlying4 _), (trodAll_cons_mk (Below.trod laidOut (by kernel_rfl) (of_decide_eq_true (by kernel_rfl)) k0 bel lt0) trodAll_mk0), rfl, bel.frame _, fun h => by cases h⟩
theorem over : Rows.windowOrderRow.holds Try.pinned (OpenSpec.ofChange Rows.windowOrderSpec) :=
  OpenClaim.holds_of_wide 6 Try.f6 rfl rfl rfl rfl rfl rfl rfl ⟨rfl, rfl, rfl, rfl, rfl⟩ rfl rfl rfl rfl rfl (by kernel_rfl) Try.func6 (by kernel_rfl)
    (of_decide_eq_true (by kernel_rfl)) (by unfold Func.isWrapper; first | (rw [if_pos (by decide +kernel)]; kernel_rfl) | (rw [if_neg (by decide +kernel)]; exact ⟨rfl, rfl⟩))
    (fun os started H enc _ => lifted os started H enc)
theorem proved : Rows.WindowOrderSaid := over
#print axioms proved
end Go.Proofs.Ytanlbnipbbjheaa.windowOrder
namespace Go.Proofs.Ytanlbnipbbjheaa
theorem windowOrder_holds : Rows.WindowOrderSaid := windowOrder.proved
end Go.Proofs.Ytanlbnipbbjheaa
