/- Of each kind of the layer ebcdic the digits and the letters stand in their rows. No condition. -/
import Derived.Test.YtnjackgfodpnjaaK
namespace Go.Proofs.Ytnjackgfodpnjaa.digits
open Go.ChangeShapes Go.WideShapes Go.ChangeAt Go.RowKit
set_option linter.unusedVariables false
set_option maxRecDepth 100000
theorem row (k : Int) (h : isK k = true) : (∀ m < 10, byteB k (48 + (m : Nat)) = true ∧ byteV k (48 + (m : Nat)) = 240 + (m : Nat)) ∧
    (∀ m < 9, byteB k (65 + (m : Nat)) = true ∧ byteV k (65 + (m : Nat)) = 193 + (m : Nat) ∧ byteB k (97 + (m : Nat)) = true ∧ byteV k (97 + (m : Nat)) = 129 + (m : Nat)) ∧
    (∀ m < 9, byteB k (74 + (m : Nat)) = true ∧ byteV k (74 + (m : Nat)) = 209 + (m : Nat) ∧ byteB k (106 + (m : Nat)) = true ∧ byteV k (106 + (m : Nat)) = 145 + (m : Nat)) ∧
    (∀ m < 8, byteB k (83 + (m : Nat)) = true ∧ byteV k (83 + (m : Nat)) = 226 + (m : Nat) ∧ byteB k (115 + (m : Nat)) = true ∧ byteV k (115 + (m : Nat)) = 162 + (m : Nat)) := by
  rcases (isK_iff k).1 h with rfl | rfl | rfl <;> decide +kernel
set_option maxHeartbeats 400000 in
theorem walk (a c : Int) (w0 : (Lit.int .i64 a).wf = true) (w1 : (Lit.int .i64 c).wf = true) (w : World) :
    Calls Try.prog 7 #[.int .i64 a, .int .i64 c] w fun e w' => e = .returned (.bool true) ∧ Below w.heap.size w w' := by
  obtain ⟨q, hq, eq0⟩ := pick_q a 3 (by omega) (by omega)
  have eq : wrap64 ((IntKind.u64.wrap a).tmod 3) = (q : Int) := eq0
  obtain ⟨m, hm, em0⟩ := pick_q c 36 (by omega) (by omega)
  have em : wrap64 ((IntKind.u64.wrap c).tmod 36) = (m : Int) := em0
  clear eq0 em0
  go_enter Try.func7, Try.ntmps7
  go_wp2_with fail
  refine (works_any _).mono ?_
  rintro e w1 ⟨rfl, hb1⟩
  go_wp2_with fail
  refine (kinds_any _).mono ?_
  rintro e w2 ⟨rfl, hb2, hc2⟩
  have hcq := hc2 q hq
  have hkk := kindOf_is q hq
  clear hc2
  obtain ⟨k, hk⟩ : ∃ k, kindOf q = k := ⟨_, rfl⟩
  rw [hk] at hcq hkk
  clear hk
  have s1 := hb1.size
  have hb := hb1.trans (hb2.mono s1)
  clear hb1 hb2 s1
  obtain ⟨r0, r1, r2, r3⟩ := row k hkk
  clear hkk
  have HR := Lib.hid (And.intro r0 (And.intro r1 (And.intro r2 r3)))
  clear r0 r1 r2 r3
  by_cases h28 : 28 ≤ m
  · obtain ⟨f1, f2, f3, f4⟩ := HR.out.2.2.2 (m - 28) (by omega)
    have g1 : byteB k (83 + (m : Int) - 28) = true := by rw [← f1]; congr 1; omega
    have g2 : byteV k (83 + (m : Int) - 28) = 226 + (m : Int) - 28 := by rw [show (83 + (m : Int) - 28) = 83 + ((m - 28 : Nat) : Int) by omega, f2]; omega
    have g3 : byteB k (83 + (m : Int) - 28 + 32) = true := by rw [← f3]; congr 1; omega
    have g4 : byteV k (83 + (m : Int) - 28 + 32) = 226 + (m : Int) - 28 - 64 := by rw [show (83 + (m : Int) - 28 + 32) = 115 + ((m - 28 : Nat) : Int) by omega, f4]; omega
    clear f1 f2 f3 f4
    go_wp2_with fail
    refine (byte_any k _ _).mono ?_
    rintro e w3 ⟨rfl, hb3⟩
    go_wp2_with fail
    refine (byte_any k _ _).mono ?_
    rintro e w4 ⟨rfl, hb4⟩
    go_wp2_with fail
    go_ret
    have s2 := hb.size
    have s3 := hb3.size
    exact ⟨rfl, (hb.trans (hb3.mono s2)).trans (hb4.mono (by omega))⟩
  · by_cases h19 : 19 ≤ m
    · obtain ⟨f1, f2, f3, f4⟩ := HR.out.2.2.1 (m - 19) (by omega)
      have g1 : byteB k (74 + (m : Int) - 19) = true := by rw [← f1]; congr 1; omega
      have g2 : byteV k (74 + (m : Int) - 19) = 209 + (m : Int) - 19 := by rw [show (74 + (m : Int) - 19) = 74 + ((m - 19 : Nat) : Int) by omega, f2]; omega
      have g3 : byteB k (74 + (m : Int) - 19 + 32) = true := by rw [← f3]; congr 1; omega
      have g4 : byteV k (74 + (m : Int) - 19 + 32) = 209 + (m : Int) - 19 - 64 := by rw [show (74 + (m : Int) - 19 + 32) = 106 + ((m - 19 : Nat) : Int) by omega, f4]; omega
      clear f1 f2 f3 f4
      go_wp2_with fail
      refine (byte_any k _ _).mono ?_
      rintro e w3 ⟨rfl, hb3⟩
      go_wp2_with fail
      refine (byte_any k _ _).mono ?_
      rintro e w4 ⟨rfl, hb4⟩
      go_wp2_with fail
      go_ret
      have s2 := hb.size
      have s3 := hb3.size
      exact ⟨rfl, (hb.trans (hb3.mono s2)).trans (hb4.mono (by omega))⟩
    · by_cases h10 : 10 ≤ m
      · obtain ⟨f1, f2, f3, f4⟩ := HR.out.2.1 (m - 10) (by omega)
        have g1 : byteB k (65 + (m : Int) - 10) = true := by rw [← f1]; congr 1; omega
        have g2 : byteV k (65 + (m : Int) - 10) = 193 + (m : Int) - 10 := by rw [show (65 + (m : Int) - 10) = 65 + ((m - 10 : Nat) : Int) by omega, f2]; omega
        have g3 : byteB k (65 + (m : Int) - 10 + 32) = true := by rw [← f3]; congr 1; omega
        have g4 : byteV k (65 + (m : Int) - 10 + 32) = 193 + (m : Int) - 10 - 64 := by rw [show (65 + (m : Int) - 10 + 32) = 97 + ((m - 10 : Nat) : Int) by omega, f4]; omega
        clear f1 f2 f3 f4
        go_wp2_with fail
        refine (byte_any k _ _).mono ?_
        rintro e w3 ⟨rfl, hb3⟩
        go_wp2_with fail
        refine (byte_any k _ _).mono ?_
        rintro e w4 ⟨rfl, hb4⟩
        go_wp2_with fail
        go_ret
        have s2 := hb.size
        have s3 := hb3.size
        exact ⟨rfl, (hb.trans (hb3.mono s2)).trans (hb4.mono (by omega))⟩
      · obtain ⟨f1, f2⟩ := HR.out.1 m (by omega)
        go_wp2_with fail
        refine (byte_any k _ _).mono ?_
        rintro e w3 ⟨rfl, hb3⟩
        go_wp2_with fail
        refine (byte_any k _ _).mono ?_
        rintro e w4 ⟨rfl, hb4⟩
        go_wp2_with fail
        go_ret
        have s2 := hb.size
        have s3 := hb3.size
        exact ⟨rfl, (hb.trans (hb3.mono s2)).trans (hb4.mono (by omega))⟩
theorem own : ownKnob Try.prog.godebug = none := by kernel_rfl
set_option maxRecDepth 100000 in
theorem lifted (os : Os) (started : os.Started) (H : Type) (enc : TypeId × Value → H) :
    ReturnsInHanded {} Try.checked os 7 .any (Rows.ebcdicDigitsSpec.pre6 enc Try.prog Try.f7 Rows.ebcdicDigitsRow.domain false) (Rows.ebcdicDigitsSpec.post enc Try.prog Try.f7 false true false false) := by
  refine returnsInHanded_of_change (C := Try.checked) own started (by kernel_rfl) Try.func7
    (ChangeSpec.witness6 (enc := enc) (C := Try.checked) false ⟨#[], #[.int .i64 0, .int .i64 0], []⟩ 8 (by kernel_rfl) (by kernel_rfl) (by kernel_rfl) (by kernel_rfl)) ?_
  intro W base args ds gs before hval0 hW hcnd _
  have hval : ∀ (j : Nat) t v, Try.f7.params[j]? = some t → args[j]? = some v → Value.okWide Try.prog W .any base t v := hval0
  have hW' := hW
  obtain ⟨p, q, hA0, hV, rfl, hfz, hnd⟩ := hW
  have hA : DataW.TrodAll enc Try.prog W 0 (fun _ => true) true Try.f7.params.toList args.toList ds p := hA0
  rw [Try.params7] at hA hval
  obtain ⟨v0, vs0, d0, ds0, p0, q0, hargs, rfl, rfl, h0, r0⟩ := trodAll_cons hA
  obtain ⟨v1, vs1, d1, ds1, p1, q1, rfl, rfl, rfl, h1, r1⟩ := trodAll_cons r0
  obtain ⟨rfl, rfl, rfl⟩ := trodAll_nil r1
  obtain rfl : args = #[v0, v1] := by cases args; simp_all
  obtain ⟨rfl, rfl⟩ := trodVars_none hV
  obtain ⟨a0, rfl, rfl, rfl, w0⟩ := open_int Try.underlying3 (hval 0 3 v0 rfl rfl) h0
  obtain ⟨a1, rfl, rfl, rfl, w1⟩ := open_int Try.underlying3 (hval 1 3 v1 rfl rfl) h1
  clear hA0 hval0
  simp only [List.append_nil] at hW'
  refine (walk a0 a1 w0 w1 W).mono fun e W' ⟨he, hg⟩ => ?_
  subst he
  exact ⟨_, rfl, post_of_below (pa := []) (pv := []) hW' (fun _ _ _ => (trodAll_cons_mk (shut_bool Try.underlying4 _) trodAll_mk0)) (fun sp _ => (trodAll_cons_mk (shut_int Try.underlying3 w0) (trodAll_cons_mk (shut_int Try.underlying3 w1) trodAll_mk0))) (fun _ _ => rfl) rfl
    hg (ok_one (by kernel_rfl) rfl (okWide_bool_mk Try.underlying4 _))⟩
theorem over : Rows.ebcdicDigitsRow.holds Try.pinned (OpenSpec.ofChange Rows.ebcdicDigitsSpec) :=
  OpenClaim.holds_of_wide 7 Try.f7 rfl rfl rfl rfl rfl rfl rfl ⟨rfl, rfl, rfl, rfl, rfl⟩ rfl rfl rfl rfl rfl (by kernel_rfl) Try.func7 (by kernel_rfl)
    (of_decide_eq_true (by kernel_rfl)) (by unfold Func.isWrapper; rw [if_neg (by decide +kernel)]; exact ⟨rfl, rfl⟩)
    (fun os started H enc _ => lifted os started H enc)
/-- the statement -/
theorem proved : Rows.EbcdicDigitsSaid := over
end Go.Proofs.Ytnjackgfodpnjaa.digits
