/- The walk of the law DelayNext: at the tick that comes next somebody is ready who was not, and at none ahead of it. -/
import Derived.Test.YtbamdihbpfdbjaaWorks
import Derived.Laws.Bits128
namespace Go.Proofs.Ytbamdihbpfdbjaa.delayNextWalk
open Go Go.RowKit Go.Proofs.Ytbamdihbpfdbjaa.K Go.Proofs.Ytbamdihbpfdbjaa.R
set_option linter.unusedVariables false
set_option linter.unusedSimpArgs false
theorem i64_and3 (n : Int) : bits .and .i64 n 3 = n % 4 := by
  have h127 : (BitVec.ofInt 64 3).toNat = 2 ^ 2 - 1 := by decide
  have key : (BitVec.ofInt 64 n &&& BitVec.ofInt 64 3).toNat = (n % ((2 ^ 64 : Nat) : Int)).toNat % 2 ^ 2 := by
    rw [BitVec.toNat_and, BitVec.toNat_ofInt, h127, Nat.and_two_pow_sub_one_eq_mod]
  show IntKind.i64.wrap ((BitVec.ofInt 64 n &&& BitVec.ofInt 64 3).toNat : Nat) = n % 4
  rw [key, IntKind.wrap_i64]
  omega
def tk (n : Int) : Int := if n < 0 then 0 else if n > 1000 then 0 else n
theorem tk_bd (n : Int) : 0 ≤ tk n ∧ tk n ≤ 1000 := by unfold tk; omega
theorem ticks_any (a b c d : Int) (w : World) : Calls Try.prog 10 #[.agg #[.int .i64 a, .int .i64 b, .int .i64 c, .int .i64 d]] w fun e w' => e = .returned (.int .i64 (tk d)) ∧ Below w.heap.size w w' :=
  PDelayPlays.provostlaw25_ticks.calls a b c d (tk d) w (by
    unfold PDelayPlays.provostlaw25_ticks.f tk
    by_cases h1 : d < 0
    · rw [if_pos h1, if_pos h1]
    · rw [if_neg h1, if_neg h1]
      by_cases h2 : d > 1000
      · rw [if_pos h2, if_pos h2]
      · rw [if_neg h2, if_neg h2])
theorem chBelow {w w' : World} (h : Below w.heap.size w w') : Ch [] w w' := ⟨h.os, h.tape, h.output, h.size, fun k hk _ => h.block k hk⟩
def Inv (l : List ((Int × Int) × (Int × Int))) (now : Int) : Prop := ∀ p ∈ l, (0 ≤ p.1.1 ∧ p.1.1 ≤ 3) ∧ (0 ≤ p.1.2 ∧ p.1.2 ≤ 3) ∧ (1 ≤ p.2.1 ∧ p.2.1 ≤ 100) ∧ 0 ≤ p.2.2 ∧ p.2.2 ≤ now + 32
theorem att_bd {l : List ((Int × Int) × (Int × Int))} {now : Int} (h : Inv l now) (hn : 0 ≤ now) (x : Int × Int) : (0 ≤ (att l x).1 ∧ (att l x).1 ≤ 100) ∧ 0 ≤ (att l x).2 ∧ (att l x).2 ≤ now + 32 := by
  unfold att
  rcases hl : mlook l x with _ | y
  · simp; omega
  · have := h _ (mlook_mem hl)
    simp at this ⊢
    omega
theorem inv_put {l : List ((Int × Int) × (Int × Int))} {now now' u n f : Int} (h : Inv l now) (hn : now ≤ now') (h0 : 0 ≤ now) (hu : 0 ≤ u ∧ u ≤ 3) (hs : 0 ≤ n ∧ n ≤ 3) (hf : 1 ≤ f ∧ f ≤ 100) : Inv (mput l (u, n) (f, now' + aft f)) now' := by
  have ab := aft_bd f
  intro p hp
  unfold mput at hp
  split at hp
  · obtain ⟨q, hq, rfl⟩ := List.mem_map.1 hp
    have := h q hq
    split
    · simp; omega
    · omega
  · rcases List.mem_append.1 hp with hp | hp
    · have := h p hp; omega
    · simp at hp; subst hp; simp; omega
theorem mlook_of_mem {l : List ((Int × Int) × (Int × Int))} (hn : (l.map (·.1)).Nodup) {p : (Int × Int) × (Int × Int)} (hp : p ∈ l) : mlook l p.1 = some p.2 := by
  obtain ⟨j, hj, rfl⟩ := List.getElem_of_mem hp
  exact mlook_some hn (List.getElem?_eq_getElem hj)
/-- Somebody who is ready at nx was met. -/
def TP (l : List ((Int × Int) × (Int × Int))) (nx : Int) (u j : Nat) : Prop := ∃ p ∈ l, 0 < nx ∧ p.2.2 = nx ∧ (p.1.1 < u ∨ p.1.1 = u ∧ p.1.2 < j)
def rdy (l : List ((Int × Int) × (Int × Int))) (x : Int × Int) (t : Int) : Bool := leftF l x t == 0
theorem tp_zero {l : List ((Int × Int) × (Int × Int))} {now nx : Int} (hi : Inv l now) : ¬ TP l nx 0 0 := by
  rintro ⟨p, hp, _, _, h⟩
  have := hi p hp
  omega
theorem tp_row {l : List ((Int × Int) × (Int × Int))} {now nx : Int} (hi : Inv l now) (u : Nat) : TP l nx u 4 ↔ TP l nx (u + 1) 0 := by
  constructor
  · rintro ⟨p, hp, h1, h2, h⟩
    have := hi p hp
    exact ⟨p, hp, h1, h2, by omega⟩
  · rintro ⟨p, hp, h1, h2, h⟩
    have := hi p hp
    exact ⟨p, hp, h1, h2, by omega⟩
theorem tp_end {l : List ((Int × Int) × (Int × Int))} {now nx : Int} (hi : Inv l now) (hp : NextP now (· ∈ l) nx) (h0 : 0 ≤ now) : TP l nx 4 0 ↔ 0 < nx := by
  constructor
  · rintro ⟨p, hp, h1, _⟩; exact h1
  · intro h
    rcases hp with ⟨rfl, _⟩ | ⟨p, h1, h2, h3, _⟩
    · omega
    · have := hi p h1
      exact ⟨p, h1, h, h2, by omega⟩
theorem rdy_at {l : List ((Int × Int) × (Int × Int))} {x : Int × Int} {f d : Int} (hl : mlook l x = some (f, d)) (t : Int) : rdy l x t = decide (d ≤ t) := by
  unfold rdy leftF att
  rw [hl]
  simp only [Option.isSome_some, if_true, Option.getD_some]
  by_cases c : d ≤ t
  · rw [decide_eq_true c]; simp; omega
  · rw [decide_eq_false c]; simp; omega
theorem rdy_yes {l : List ((Int × Int) × (Int × Int))} {now nx : Int} {u j : Nat} (hn : (l.map (·.1)).Nodup) (hP : NextP now (· ∈ l) nx) (h0 : 0 ≤ now) (h : rdy l (u, j) now = true) : TP l nx u (j + 1) ↔ TP l nx u j := by
  constructor
  · rintro ⟨p, hp, h1, h2, h3⟩
    refine ⟨p, hp, h1, h2, ?_⟩
    by_cases e : p.1 = ((u : Int), (j : Int))
    · exfalso
      have hl := mlook_of_mem hn hp
      rw [e] at hl
      rw [rdy_at (f := p.2.1) (d := p.2.2) hl] at h
      simp at h
      rcases hP with ⟨rfl, _⟩ | ⟨q, q1, q2, q3, q4⟩
      · omega
      · omega
    · have : ¬ (p.1.1 = u ∧ p.1.2 = j) := fun hh => e (Prod.ext hh.1 hh.2)
      omega
  · rintro ⟨p, hp, h1, h2, h3⟩
    exact ⟨p, hp, h1, h2, by omega⟩
theorem rdy_no {l : List ((Int × Int) × (Int × Int))} {now nx : Int} {u j : Nat} (hn : (l.map (·.1)).Nodup) (hP : NextP now (· ∈ l) nx) (h0 : 0 ≤ now) (h : rdy l (u, j) now = false) :
    0 < nx ∧ now < nx ∧ rdy l (u, j) (nx - 1) = false ∧ (TP l nx u (j + 1) ↔ TP l nx u j ∨ rdy l (u, j) nx = true) := by
  rcases hl : mlook l ((u : Int), (j : Int)) with _ | ⟨f, d⟩
  · unfold rdy leftF at h
    rw [hl] at h
    simp at h
  · have hm := mlook_mem hl
    have hr := rdy_at hl
    rw [hr] at h
    simp at h
    rw [hr, hr]
    rcases hP with ⟨rfl, hz⟩ | ⟨q, q1, q2, q3, q4⟩
    · have := hz _ hm; simp at this; omega
    · have hle := q4 _ hm h
      simp only at hle
      refine ⟨by omega, q3, by simp; omega, ?_⟩
      constructor
      · rintro ⟨p, hp, h1, h2, h3⟩
        by_cases e : p.1 = ((u : Int), (j : Int))
        · right
          have hl2 := mlook_of_mem hn hp
          rw [e, hl] at hl2
          have : p.2 = (f, d) := (Option.some.inj hl2).symm
          rw [this] at h2
          simp only at h2
          simp; omega
        · left
          have : ¬ (p.1.1 = u ∧ p.1.2 = j) := fun hh => e (Prod.ext hh.1 hh.2)
          exact ⟨p, hp, h1, h2, by omega⟩
      · rintro (⟨p, hp, h1, h2, h3⟩ | hd)
        · exact ⟨p, hp, h1, h2, by omega⟩
        · simp at hd
          exact ⟨_, hm, by omega, by simp only; omega, .inr ⟨rfl, by simp only; omega⟩⟩
theorem Ready_r (b mb : Nat) (l : List ((Int × Int) × (Int × Int))) (u n now t : Int) (r : Bool) (w : World) (h : BookIs w b mb l) (hi : Inv l now) (hn0 : 0 ≤ now) (hnn : now ≤ 60000) (hu : 0 ≤ u ∧ u ≤ 3) (hnn : 0 ≤ n ∧ n ≤ 3) (hn : 0 ≤ t) (hn2 : t ≤ 1000000) (hr : rdy l (u, n) t = r) :
    Calls Try.prog 13 #[.pointer (some ⟨b, 0, none⟩), .int .i64 u, .int .i64 n, .int .i64 t] w fun e w' => e = .returned (.bool r) ∧ Ch [] w w' := by
  obtain ⟨_, h1, h2⟩ := att_bd hi hn0 (u, n)
  rw [← hr]
  exact Ready_any b mb l u n t w h ⟨WalkArith.wf_i64 (by simp only; omega), WalkArith.wf_i64 (by simp only; omega)⟩ hn (by omega) (by omega) (by omega)
theorem keep2 {W w1 : World} {p q : Addr} {x y : Value} {mb : Nat} (h : W.cell? p = some x ∧ W.cell? q = some y ∧ Hid (p.block ≠ mb ∧ q.block ≠ mb)) (hc : Ch [mb] W w1) : w1.cell? p = some x ∧ w1.cell? q = some y ∧ Hid (p.block ≠ mb ∧ q.block ≠ mb) :=
  ⟨(hc.cell (World.block_lt_of_cell? W p h.1) (by simpa using h.2.2.out.1)).trans h.1, (hc.cell (World.block_lt_of_cell? W q h.2.1) (by simpa using h.2.2.out.2)).trans h.2.1, h.2.2⟩
set_option maxRecDepth 100000 in
set_option maxHeartbeats 2000000 in
theorem walk (a0 : Option Addr) (len0 cap0 : Nat) (w : World) (w0 : len0 = 0 ∨ ∃ b off, a0 = some ⟨b, off, none⟩ ∧ b < w.heap.size ∧ ∀ i, i < len0 → (∃ z : Int, w.cell? ⟨b, off + (i * 4 + 0), none⟩ = some (.int .i64 z) ∧ (Lit.int .i64 z).wf = true) ∧ (∃ z : Int, w.cell? ⟨b, off + (i * 4 + 1), none⟩ = some (.int .i64 z) ∧ (Lit.int .i64 z).wf = true) ∧ (∃ z : Int, w.cell? ⟨b, off + (i * 4 + 2), none⟩ = some (.int .i64 z) ∧ (Lit.int .i64 z).wf = true) ∧ (∃ z : Int, w.cell? ⟨b, off + (i * 4 + 3), none⟩ = some (.int .i64 z) ∧ (Lit.int .i64 z).wf = true)) :
    Calls Try.prog 4 #[.slice a0 len0 cap0] w fun e w' => e = .returned (.bool true) ∧ Below w.heap.size w w' := by
  have W0 := Lib.hid w0
  clear w0
  go_enter Try.func4, Try.ntmps4
  go_wp2_with fail
  refine (works_any _).mono ?_
  rintro e w1 ⟨rfl, hc⟩
  have C1 := Lib.hid hc
  clear hc
  go_wp2_with fail
  refine (New_any _).mono ?_
  rintro e w2 ⟨b, mb, rfl, hb, hge, hge2, hc⟩
  have B2 := Lib.hid hb
  have C2 := Lib.hid (C1.out.trans hc)
  have N1 := Lib.hid (Nat.le_trans C1.out.size hge)
  have N2 := Lib.hid (Nat.le_trans C1.out.size hge2)
  clear hb hc hge hge2 C1
  go_wp2_with fail
  go_loopg [4, 5] 60 (fun kq v4 v5 wr => ∃ (k : Nat) (now : Int) (l : List ((Int × Int) × (Int × Int))), kq + k = 60 ∧ k ≤ len0 ∧ v5 = .int .i64 k ∧ v4 = .int .i64 now ∧ 0 ≤ now ∧ now ≤ 1000 * k ∧ Hid (BookIs wr b mb l) ∧ Hid (Inv l now) ∧ Hid (Ch [] w wr))
  case atStart => exact ⟨0, 0, [], by omega, by omega, by simp, rfl, by omega, by omega, B2, Lib.hid (by intro p hp; simp at hp), C2⟩
  case round =>
    obtain ⟨k, now, l, hkq, hk, rfl, rfl, hn0, hn1, B3, I3, C3⟩ := hrel
    by_cases hlt : k < len0 ∧ k < 60
    · obtain ⟨hk1, hk2⟩ := hlt
      obtain ⟨rb, off, rfl, hrb, hrow⟩ := W0.out.resolve_left (by omega)
      obtain ⟨⟨z0, y0, _⟩, ⟨z1, y1, _⟩, ⟨z2, y2, _⟩, ⟨z3, y3, _⟩⟩ := hrow k hk1
      have x0 := C3.out.get y0
      have x1 := C3.out.get y1
      have x2 := C3.out.get y2
      have x3 := C3.out.get y3
      simp only [Nat.add_zero, ← Nat.add_assoc] at x0 x1 x2 x3
      clear y0 y1 y2 y3
      have tb := tk_bd z3
      have m1 := i64_and3 z1
      have m2 := i64_and3 z2
      have ok := Lib.hid (show okK (z1 % 4, z2 % 4) from ⟨WalkArith.wf_i64 (by simp only; omega), WalkArith.wf_i64 (by simp only; omega)⟩)
      go_wp2_with fail
      refine (ticks_any z0 z1 z2 z3 _).mono ?_
      rintro e w4 ⟨rfl, hb⟩
      have C4 := Lib.hid (C3.out.trans (chBelow hb))
      have B4 := Lib.hid (B3.out.keep (chBelow hb) (by simp) (by simp))
      have q1 := (chBelow hb).get x1
      have q2 := (chBelow hb).get x2
      clear hb x0 x1 x2 x3
      go_wp2_with fail
      obtain ⟨⟨hf0, hf1⟩, _, _⟩ := att_bd I3.out hn0 (z1 % 4, z2 % 4)
      have I5 := Lib.hid (inv_put (now' := now + tk z3) (u := z1 % 4) (n := z2 % 4) (f := min ((att l (z1 % 4, z2 % 4)).1 + 1) 100) I3.out (by omega) hn0 (by omega) (by omega) (by omega))
      have D4 := Lib.hid (B4.out.keep ((Ch.refl [] w4).drew) (by simp) (by simp))
      obtain ⟨f, hf⟩ : ∃ f, (att l (z1 % 4, z2 % 4)).1 = f := ⟨_, rfl⟩
      rw [hf] at hf0 hf1 I5
      have HF := Lib.hid hf
      clear hf
      have NE := Lib.hid (show (⟨rb, off + k * 4 + 1, none⟩ : Addr).block ≠ mb ∧ (⟨rb, off + k * 4 + 2, none⟩ : Addr).block ≠ mb from by
        have := N2.out
        simp only; omega)
      go_region_held3 (fun w' => w'.cell? ⟨rb, off + k * 4 + 1, none⟩ = some (.int .i64 z1) ∧ w'.cell? ⟨rb, off + k * 4 + 2, none⟩ = some (.int .i64 z2) ∧ Hid ((⟨rb, off + k * 4 + 1, none⟩ : Addr).block ≠ mb ∧ (⟨rb, off + k * 4 + 2, none⟩ : Addr).block ≠ mb)) (first | exact ⟨q1, q2, NE⟩ | exact keep2 (by assumption) (by assumption))
        ((go_at_call 11; with_reducible refine (Fail_any b mb l (z1 % 4) (z2 % 4) (now + tk z3) f _ D4.out ok.out (by omega) (by omega) HF.out hf0 hf1).mono ?_; rintro e w5 ⟨rfl, hb, hc⟩))
      rename_i w5 _ hb hc _ _
      have C5 := Lib.hid ((C4.out.drew).trans' hc (in1 N2.out))
      have B5 := Lib.hid hb
      clear hb hc
      go_wp2_with fail
      go_roundg (gk - 1)
      case measure => omega
      case rel => exact ⟨k + 1, now + tk z3, _, by omega, by omega, by simp, rfl, by omega, by omega, B5, I5, C5⟩
    · have hex : len0 ≤ k ∨ (k < len0 ∧ 60 ≤ k) := by omega
      rcases hex with hex | ⟨hex, hex2⟩
      all_goals
        go_wp2_with fail
        refine (Next_any b mb l now _ B3.out hn0).mono ?_
        rintro e w4 ⟨nx, rfl, hP, hc⟩
        have P4 := Lib.hid hP
        have nb : 0 ≤ nx ∧ nx ≤ now + 32 := by
          rcases hP with ⟨rfl, _⟩ | ⟨q, q1, q2, q3, q4⟩
          · omega
          · have := I3.out q q1; omega
        have B4 := Lib.hid (B3.out.keep hc (by simp) (by simp))
        have C4 := Lib.hid (C3.out.trans hc)
        have ND := Lib.hid B3.out.2.nodup
        clear hP hc
        go_wp2_with fail
        go_loopg [7, 8, 9] 4 (fun kq v7 v8 v9 wx => ∃ (u : Nat) (t : Bool), kq + u = 4 ∧ v9 = .int .i64 u ∧ v7 = .bool false ∧ v8 = .bool t ∧ Hid (t = true ↔ TP l nx u 0) ∧ Hid (BookIs wx b mb l) ∧ Hid (Ch [] w wx))
        case atStart => exact ⟨0, false, by omega, by simp, rfl, rfl, Lib.hid (by simp [tp_zero I3.out]), B4, C4⟩
        case round =>
          obtain ⟨u, t, hu, rfl, rfl, rfl, T5, B5, C5⟩ := hrel
          by_cases hu4 : u < 4
          · have e4 : decide ((u : Int) < 4) = true := by simp; omega
            go_wp2_with fail
            go_loopg [7, 8, 10] 4 (fun kq v7 v8 v10 wx => ∃ (j : Nat) (t : Bool), kq + j = 4 ∧ v10 = .int .i64 j ∧ v7 = .bool false ∧ v8 = .bool t ∧ Hid (t = true ↔ TP l nx u j) ∧ Hid (BookIs wx b mb l) ∧ Hid (Ch [] w wx))
            case atStart => exact ⟨0, t, by omega, by simp, rfl, rfl, T5, B5, C5⟩
            case round =>
              obtain ⟨j, t, hj, rfl, rfl, rfl, T6, B6, C6⟩ := hrel
              by_cases hj4 : j < 4
              · have e5 : decide ((j : Int) < 4) = true := by simp; omega
                go_wp2_with fail
                rcases hr : rdy l ((u : Int), (j : Int)) now with _ | _
                · obtain ⟨p1, p2, p3, p4⟩ := rdy_no ND.out P4.out hn0 hr
                  have e6 : (nx == 0) = false := beq_eq_false_iff_ne.2 (by omega)
                  have e7 : decide (0 < nx) = true := decide_eq_true p1
                  have HR := Lib.hid hr
                  have HP3 := Lib.hid p3
                  have HP4 := Lib.hid p4
                  clear hr p3 p4
                  refine (Ready_r b mb l u j now now false _ B6.out I3.out hn0 (by omega) (by omega) (by omega) (by omega) (by omega) HR.out).mono ?_
                  rintro e w7 ⟨rfl, hc⟩
                  have B7 := Lib.hid (B6.out.keep hc (by simp) (by simp))
                  have C7 := Lib.hid (C6.out.trans hc)
                  clear hc
                  go_wp2_with fail
                  refine (Ready_r b mb l u j now (nx - 1) false _ B7.out I3.out hn0 (by omega) (by omega) (by omega) (by omega) (by omega) HP3.out).mono ?_
                  rintro e w8 ⟨rfl, hc⟩
                  have B8 := Lib.hid (B7.out.keep hc (by simp) (by simp))
                  have C8 := Lib.hid (C7.out.trans hc)
                  clear hc
                  cases t
                  · go_wp2_with fail
                    rcases hr2 : rdy l ((u : Int), (j : Int)) nx with _ | _
                    all_goals
                      have HR2 := Lib.hid hr2
                      clear hr2
                      refine (Ready_r b mb l u j now nx _ _ B8.out I3.out hn0 (by omega) (by omega) (by omega) (by omega) (by omega) HR2.out).mono ?_
                      rintro e w9 ⟨rfl, hc⟩
                      have B9 := Lib.hid (B8.out.keep hc (by simp) (by simp))
                      have C9 := Lib.hid (C8.out.trans hc)
                      clear hc
                      go_wp2_with fail
                      go_roundg (3 - j)
                      case measure => omega
                      case rel => exact ⟨j + 1, _, by omega, by simp, rfl, rfl, Lib.hid (by rw [HP4.out, HR2.out, ← T6.out]; simp), B9, C9⟩
                  · go_wp2_with fail
                    go_roundg (3 - j)
                    case measure => omega
                    case rel => exact ⟨j + 1, true, by omega, by simp, rfl, rfl, Lib.hid (by rw [HP4.out, ← T6.out]; simp), B8, C8⟩
                · have p1 := Lib.hid (rdy_yes (u := u) (j := j) ND.out P4.out hn0 hr)
                  have HR := Lib.hid hr
                  clear hr
                  refine (Ready_r b mb l u j now now true _ B6.out I3.out hn0 (by omega) (by omega) (by omega) (by omega) (by omega) HR.out).mono ?_
                  rintro e w7 ⟨rfl, hc⟩
                  have B7 := Lib.hid (B6.out.keep hc (by simp) (by simp))
                  have C7 := Lib.hid (C6.out.trans hc)
                  clear hc
                  cases t
                  all_goals
                    go_wp2_with fail
                    go_roundg (3 - j)
                    case measure => omega
                    case rel => exact ⟨j + 1, _, by omega, by simp, rfl, rfl, Lib.hid (by rw [p1.out, ← T6.out]; try simp), B7, C7⟩
              · have e5 : decide ((j : Int) < 4) = false := by simp; omega
                have hj' : j = 4 := by omega
                subst hj'
                go_wp2_with fail
                go_roundg (3 - u)
                case measure => omega
                case rel => exact ⟨u + 1, t, by omega, by simp, rfl, rfl, Lib.hid (by rw [← tp_row I3.out, T6.out]), B6, C6⟩
          · have e4 : decide ((u : Int) < 4) = false := by simp; omega
            have hu' : u = 4 := by omega
            subst hu'
            have TE := T5.out.trans (tp_end I3.out P4.out hn0)
            by_cases hnx : 0 < nx
            · have ht : t = true := TE.2 hnx
              have hgt : now < nx := by
                rcases P4.out with ⟨rfl, _⟩ | ⟨q, q1, q2, q3, q4⟩
                · omega
                · exact q3
              have d1 : decide (0 < nx) = true := decide_eq_true hnx
              have d2 : (nx == 0) = false := beq_eq_false_iff_ne.2 (by omega)
              have d3 : decide (now < nx) = true := decide_eq_true hgt
              subst ht
              clear TE
              go_wp2_with fail
              go_ret
              exact ⟨rfl, C5.out.below0⟩
            · have ht : t = false := by
                rcases t with _ | _
                · rfl
                · exact absurd (TE.1 rfl) hnx
              have hz : nx = 0 := by omega
              subst ht
              subst hz
              clear TE
              go_wp2_with fail
              go_ret
              exact ⟨rfl, C5.out.below0⟩
end Go.Proofs.Ytbamdihbpfdbjaa.delayNextWalk
