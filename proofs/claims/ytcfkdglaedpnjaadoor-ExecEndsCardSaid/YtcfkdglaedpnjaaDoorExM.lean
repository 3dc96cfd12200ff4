/- exec.capital: strings.Map over a closure that gives capital letters, at texts of bytes under 128. -/
import Derived.Test.YtcfkdglaedpnjaaDoorExC
import Derived.Ground.NamesProg
import Derived.WalkMore
import Derived.Shelf.Lay
import Derived.Shelf.Strings.MapAny
import Derived.Lib.TrimAscii
namespace Go.Proofs
open Go.RowKit Go.Shelf Go.Lib
shelf_lay Lays.n230 Nm 230 at Tryd as Tryd.laysMap
theorem Tryd.extra : Builder.Extra Tryd.prog Tryd.laysMap_ren where
  sizeBuilder := by kernel_rfl
  liesBuilder := by kernel_rfl
  t5 := Tryd.laysMap.t5
  a5 := Tryd.laysMap.a5
  z5 := Tryd.laysMap.z5
  v5 := Tryd.laysMap.v5
  infoByte := by kernel_rfl
  cellsByte := by kernel_rfl
  sizeByte := by kernel_rfl
  neB5 := by decide
end Go.Proofs
namespace Go.Proofs.YtcfkdglaedpnjaaDoor.V
open Go Go.RowKit Go.Shelf Go.Lib Go.Proofs.YtcfkdglaedpnjaaDoor.K Go.Proofs.YtcfkdglaedpnjaaDoor.R
set_option linter.unusedVariables false
set_option linter.unusedSimpArgs false
def upI (z : Int) : Int := if 97 ≤ z ∧ z ≤ 122 then z - 97 + 65 else z
/-- The two tables of unicode/utf8. -/
abbrev Tabs (w : World) : Prop := Lib.Utf8Tabs (Tryd.laysMap_ren.g 3) (Tryd.laysMap_ren.g 4) w
set_option maxHeartbeats 1000000 in
set_option maxRecDepth 100000 in
theorem clo_pays (w : World) : MapAtRunes Tryd.prog 48 #[] upI w := by
  intro W x hx hb
  show Calls Tryd.prog 48 #[.int .i32 (x : Int)] W _
  have hw : ∀ n : Int, 0 ≤ n → n ≤ 2147483647 → IntKind.i32.wrap n = n := fun n h0 h1 => by rw [IntKind.wrap_i32]; omega
  by_cases h1 : (97 : Int) ≤ (x : Int)
  · by_cases h2 : (x : Int) ≤ 122
    · have h3 := hw ((x : Int) - 97) (by omega) (by omega)
      have h4 := hw ((x : Int) - 97 + 65) (by omega) (by omega)
      rw [show upI x = (x : Int) - 97 + 65 from if_pos ⟨h1, h2⟩]
      go_enter Tryd.func48, Tryd.ntmps48
      go_wp2
      go_ret
      exact ⟨rfl, 0, rfl⟩
    · rw [show upI x = (x : Int) from if_neg fun h => h2 h.2]
      go_enter Tryd.func48, Tryd.ntmps48
      go_wp2
      go_ret
      exact ⟨rfl, 0, rfl⟩
  · rw [show upI x = (x : Int) from if_neg fun h => h1 h.1]
    go_enter Tryd.func48, Tryd.ntmps48
    go_wp2
    go_ret
    exact ⟨rfl, 0, rfl⟩
theorem up_range (x : Nat) (hx : x ≤ 1114111) : 0 ≤ upI x ∧ upI x ≤ 2147483647 := by
  unfold upI
  split <;> omega
theorem upI_byte (c : UInt8) : upI (c.toNat : Int) = ((upB c).toNat : Int) := by
  by_cases h : 97 ≤ c.toNat ∧ c.toNat ≤ 122
  · rw [(up_yes h).1, (up_yes h).2]
    unfold upI
    rw [if_pos (by omega)]
    omega
  · rw [up_no h]
    exact if_neg (by omega)
theorem upB_lt {c : UInt8} (h : c.toNat < 128) : (upB c).toNat < 128 := by
  by_cases h1 : 97 ≤ c.toNat ∧ c.toNat ≤ 122
  · rw [(up_yes h1).1, (up_yes h1).2]; omega
  · rw [up_no h1]; exact h
theorem enc_ascii (c : UInt8) (h : c.toNat < 128) : encodeRune (c.toNat : Int) = [c] := by
  have h1 := encode_decode [c] (by simp) (by rw [decodeL_ascii c [] h]; simp; omega)
  rw [decodeL_ascii c [] h] at h1
  simpa using h1
theorem mapD_up : ∀ l : List UInt8, (∀ c ∈ l, c.toNat < 128) → mapD upI l = l.map upB
  | [], _ => rfl
  | c :: l, h => by
    have hc := h c List.mem_cons_self
    rw [mapD_step upI (c :: l) (by simp), decodeL_ascii c l hc]
    simp only [List.drop_succ_cons, List.drop_zero, List.map_cons]
    rw [mapD_up l (fun x hx => h x (List.mem_cons_of_mem _ hx)), upI_byte, if_pos (by omega), enc_ascii _ (upB_lt hc)]
    rfl
set_option maxHeartbeats 1000000 in
set_option maxRecDepth 100000 in
theorem cap_ {w : World} {t : ByteArray} (hT : Tabs w) (ht : t.size ≤ 100000) (hp : (t.data.toList.all fun c => decide (c.toNat < 128)) = true) : Calls Tryd.prog 42 #[.string t] w fun en w' => en = .returned (.string (str (t.data.toList.map upB))) ∧ Ch [] w w' := by
  have cM : Calls Tryd.prog 47 #[.func (.func 48) #[] #[], .string t] w _ := Any.strings_Map_runes Tryd.laysMap Tryd.extra 48 #[] (enters_of Tryd.func48 (by kernel_rfl) rfl) upI t w (by omega) (clo_pays w) up_range hT
  rw [mapD_up _ (fun c hc => by simpa using List.all_eq_true.1 hp c hc)] at cM
  unfold str
  generalize (t.data.toList.map upB).toArray = OUT at cM ⊢
  go_enter Tryd.func42, Tryd.ntmps42
  go_wp2_with (go_at_call 47; refine cM.mono ?_; rintro e w' ⟨rfl, hb⟩)
  go_ret
  exact ⟨rfl, hb.os, hb.tape, hb.output, hb.size, fun k hk _ => hb.block k hk⟩
theorem tabs_ch {w w' : World} (h : Tabs w) (hb : Below w.heap.size w w') : Tabs w' := Utf8Tabs_below h hb
end Go.Proofs.YtcfkdglaedpnjaaDoor.V
