/- The walks that ask a table of bytes. -/
import Derived.Test.YtageajpchmgehaaN
namespace Go.Proofs.Ytageajpchmgehaa
open Go.RowKit Go.Maps

set_option maxRecDepth 100000
set_option maxHeartbeats 400000 in
theorem tscalar_any (k : Int) (t n : Nat) (w : World) (hk : isK k = true) (hn : n < 256) (hm : Made w t k) :
    Calls Try.prog 21 #[.pointer (some ⟨t, 0, none⟩), .int .u8 (n : Int)] w fun e w' => e = .returned (.tuple #[.int .i32 (scalV k n), .bool (scalB k n)]) ∧ w = w' := by
  obtain ⟨b, g, c, S, E, h1, _, _, _, h5, _, _⟩ := hm
  have c0 : w.cell? ⟨t, 0, none⟩ = some (.int .i64 0) := cell_of_row w t 0 _ _ _ h1
  have c2 : w.cell? ⟨t, 2, none⟩ = some (.slice (some ⟨g, 0, none⟩) 256 c) := cell_of_row w t 2 _ _ _ h1
  have cg := h5 n hn
  clear h1 h5
  cases hv : (val k n == 65533) with
  | true =>
    have hv' : val k n = 65533 := by simpa using hv
    have hsv : scalV k n = 0 ∧ scalB k n = false := by unfold scalV scalB; rw [hk, hv]; exact ⟨rfl, rfl⟩
    rw [hsv.1, hsv.2]
    clear hsv hv
    rw [hv'] at cg
    clear hv'
    go_enter Try.func21, Try.ntmps21
    go_wp2_with fail
    go_ret2
    exact ⟨rfl, rfl⟩
  | false =>
    have hv' : val k n ≠ 65533 := by simpa using hv
    obtain ⟨s1, s2⟩ := scal_yes hk hv'
    rw [s1, s2]
    clear s1 s2 hv'
    go_enter Try.func21, Try.ntmps21
    go_wp2_with fail
    go_ret2
    exact ⟨rfl, rfl⟩
set_option maxHeartbeats 400000 in
theorem tbyte_any (k u : Int) (t : Nat) (w : World) (hk : isK k = true) (hu : (Lit.int .i32 u).wf = true) (hm : Made w t k) :
    Calls Try.prog 22 #[.pointer (some ⟨t, 0, none⟩), .int .i32 u] w fun e w' => e = .returned (.tuple #[.int .u8 (byteV k u), .bool (byteB k u)]) ∧ w = w' := by
  obtain ⟨b, g, c, S, E, h1, _, _, _, _, h6, h7⟩ := hm
  have c3 : w.cell? ⟨t, 3, none⟩ = some (.map (some b)) := cell_of_row w t 3 _ _ _ h1
  have hans : ∀ cc : Int, E.atKey (.int .i32 u) (.lit (.int .u8 0)) = .lit (.int .u8 cc) → byteV k u = cc ∧ byteB k u = has E (.int .i32 u) := by
    intro cc hat
    obtain ⟨q1, q2⟩ := h7.2 u
    cases hs : srch k u 256 with
    | none =>
      have hn : fnd k u = none := (srch_end hk).trans hs
      obtain ⟨b1, b2⟩ := byte_none hn
      rw [hs] at q1
      rw [atKey_of_not_has q1] at hat
      have : (0 : Int) = cc := by simpa using hat
      exact ⟨by rw [b1, this], by rw [b2, q1]; rfl⟩
    | some j =>
      have hn : fnd k u = some j := (srch_end hk).trans hs
      obtain ⟨b1, b2⟩ := byte_some hn
      rw [hs] at q1
      rw [q2 j hs] at hat
      have : (j : Int) = cc := by simpa using hat
      exact ⟨by rw [b1, this], by rw [b2, q1]; rfl⟩
  have HA := Lib.hid hans
  clear h1 h7 hans
  go_enter Try.func22, Try.ntmps22
  go_wp2_with ((at_lookup; refine wpList_lookup_own_ok_int _ rfl _ _ 51 rfl 21 5 .u8 (int_keyed Try.underlying21) Try.underlying51 Try.underlying5 (show (zeroValue 5).run Try.prog _ = .ok (.int .u8 0) _ by kernel_rfl) b 256 E rfl h6 _ (.int .i32 u) rfl (keyOf_int_mk Try.underlying21 hu) ?_; intro cc hat hwc))
  go_ret2
  exact ⟨pair_u8 (HA.out cc hat), rfl⟩
end Go.Proofs.Ytageajpchmgehaa
