/- Of each kind of the layer dos the low bytes stand for the scalars of the same number, and no other byte does below 80. No condition. -/
import Derived.Test.YtaopfjnmgbdkiaaK
namespace Go.Proofs.Ytaopfjnmgbdkiaa.plain
open Go.ChangeShapes Go.WideShapes Go.ChangeAt Go.RowKit
set_option linter.unusedVariables false
set_option maxRecDepth 100000
theorem low_scal (k : Int) (h : isK k = true) (b : Nat) (hb : b < 128) : scalB k b = true ∧ scalV k b = (b : Int) := by
  have hv := val_low k h b hb
  obtain ⟨s1, s2⟩ := scal_yes (b := b) h (by rw [hv]; omega)
  exact ⟨s2, s1.trans hv⟩
theorem low_byte (k : Int) (h : isK k = true) (u : Nat) (hu : u < 128) : byteB k (u : Int) = true ∧ byteV k (u : Int) = (u : Int) := by
  obtain ⟨j, hj, hf⟩ := fndF_le (k := k) (u := (u : Int)) 256 0 u (by omega) (by omega) (val_low k h u hu)
  have hv := (fndF_some _ _ _ hf).2.2
  rw [val_low k h j (by omega)] at hv
  obtain rfl : j = u := by omega
  obtain ⟨s1, s2⟩ := byte_some ((fnd_eq h (show (j : Int) ≠ 65533 by omega)).trans hf)
  exact ⟨s2, s1⟩
set_option maxHeartbeats 400000 in
theorem walk (a b u : Int) (w0 : (Lit.int .i64 a).wf = true) (w1 : (Lit.int .u8 b).wf = true) (w2 : (Lit.int .i32 u).wf = true) (w : World) :
    Calls Try.prog 6 #[.int .i64 a, .int .u8 b, .int .i32 u] w fun e w' => e = .returned (.bool true) ∧ Below w.heap.size w w' := by
  obtain ⟨n, rfl, hn⟩ := byte_nat w1
  obtain ⟨q, hq, eq0⟩ := pick_q a 7 (by omega) (by omega)
  have eq : wrap64 ((IntKind.u64.wrap a).tmod 7) = (q : Int) := eq0
  clear eq0
  go_enter Try.func6, Try.ntmps6
  go_wp2_with fail
  refine (works_any _).mono ?_
  rintro e w1 ⟨rfl, hb1⟩
  go_wp2_with fail
  refine (kinds_any _).mono ?_
  rintro e w2 ⟨rfl, hb2, hc2⟩
  have hcq := hc2 q hq
  have hkk := kindOf_is q hq
  clear hc2
  obtain ⟨k, hk⟩ : ∃ k, kindOf q = k := ⟨_, rfl⟩
  rw [hk] at hcq hkk
  clear hk
  have s1 := hb1.size
  have hb := hb1.trans (hb2.mono s1)
  clear hb1 hb2 s1
  go_wp2_with fail
  refine (scalar_any k n _ hn).mono ?_
  rintro e w3 ⟨rfl, hb3⟩
  have s2 := hb.size
  have hb' := hb.trans (hb3.mono s2)
  clear hb hb3 s2 eq hcq hq
  by_cases hlow : n < 128
  · obtain ⟨l1, l2⟩ := low_scal k hkk n hlow
    rw [l1, l2]
    clear l1 l2
    go_wp2_with fail
    by_cases hu0 : u < 0
    · refine (byte_any k u _).mono ?_
      rintro e w4 ⟨rfl, hb4⟩
      go_wp2_with fail
      go_ret
      exact ⟨rfl, hb'.trans (hb4.mono hb'.size)⟩
    · by_cases hu1 : 128 ≤ u
      · refine (byte_any k u _).mono ?_
        rintro e w4 ⟨rfl, hb4⟩
        go_wp2_with fail
        go_ret
        exact ⟨rfl, hb'.trans (hb4.mono hb'.size)⟩
      · obtain ⟨m, rfl⟩ : ∃ m : Nat, u = (m : Int) := ⟨u.toNat, by omega⟩
        obtain ⟨l1, l2⟩ := low_byte k hkk m (by omega)
        refine (byte_any k (m : Int) _).mono ?_
        rw [l1, l2]
        rintro e w4 ⟨rfl, hb4⟩
        clear l1 l2
        go_wp2_with fail
        go_ret
        exact ⟨rfl, hb'.trans (hb4.mono hb'.size)⟩
  · go_wp2_with fail
    by_cases hu0 : u < 0
    · refine (byte_any k u _).mono ?_
      rintro e w4 ⟨rfl, hb4⟩
      go_wp2_with fail
      go_ret
      exact ⟨rfl, hb'.trans (hb4.mono hb'.size)⟩
    · by_cases hu1 : 128 ≤ u
      · refine (byte_any k u _).mono ?_
        rintro e w4 ⟨rfl, hb4⟩
        go_wp2_with fail
        go_ret
        exact ⟨rfl, hb'.trans (hb4.mono hb'.size)⟩
      · obtain ⟨m, rfl⟩ : ∃ m : Nat, u = (m : Int) := ⟨u.toNat, by omega⟩
        obtain ⟨l1, l2⟩ := low_byte k hkk m (by omega)
        refine (byte_any k (m : Int) _).mono ?_
        rw [l1, l2]
        rintro e w4 ⟨rfl, hb4⟩
        clear l1 l2
        go_wp2_with fail
        go_ret
        exact ⟨rfl, hb'.trans (hb4.mono hb'.size)⟩
theorem own : ownKnob Try.prog.godebug = none := by kernel_rfl
set_option maxRecDepth 100000 in
theorem lifted (os : Os) (started : os.Started) (H : Type) (enc : TypeId × Value → H) :
    ReturnsInHanded {} Try.checked os 6 .any (Rows.dosPlainSpec.pre6 enc Try.prog Try.f6 Rows.dosPlainRow.domain false) (Rows.dosPlainSpec.post enc Try.prog Try.f6 false true false false) := by
  refine returnsInHanded_of_change (C := Try.checked) own started (by kernel_rfl) Try.func6
    (ChangeSpec.witness6 (enc := enc) (C := Try.checked) false ⟨#[], #[.int .i64 0, .int .u8 0, .int .i32 0], []⟩ 8 (by kernel_rfl) (by kernel_rfl) (by kernel_rfl) (by kernel_rfl)) ?_
  intro W base args ds gs before hval0 hW hcnd _
  have hval : ∀ (j : Nat) t v, Try.f6.params[j]? = some t → args[j]? = some v → Value.okWide Try.prog W .any base t v := hval0
  have hW' := hW
  obtain ⟨p, q, hA0, hV, rfl, hfz, hnd⟩ := hW
  have hA : DataW.TrodAll enc Try.prog W 0 (fun _ => true) true Try.f6.params.toList args.toList ds p := hA0
  rw [Try.params6] at hA hval
  obtain ⟨v0, vs0, d0, ds0, p0, q0, hargs, rfl, rfl, h0, r0⟩ := trodAll_cons hA
  obtain ⟨v1, vs1, d1, ds1, p1, q1, rfl, rfl, rfl, h1, r1⟩ := trodAll_cons r0
  obtain ⟨v2, vs2, d2, ds2, p2, q2, rfl, rfl, rfl, h2, r2⟩ := trodAll_cons r1
  obtain ⟨rfl, rfl, rfl⟩ := trodAll_nil r2
  obtain rfl : args = #[v0, v1, v2] := by cases args; simp_all
  obtain ⟨rfl, rfl⟩ := trodVars_none hV
  obtain ⟨a0, rfl, rfl, rfl, w0⟩ := open_int Try.underlying3 (hval 0 3 v0 rfl rfl) h0
  obtain ⟨a1, rfl, rfl, rfl, w1⟩ := open_int Try.underlying5 (hval 1 5 v1 rfl rfl) h1
  obtain ⟨a2, rfl, rfl, rfl, w2⟩ := open_int Try.underlying21 (hval 2 21 v2 rfl rfl) h2
  clear hA0 hval0
  simp only [List.append_nil] at hW'
  refine (walk a0 a1 a2 w0 w1 w2 W).mono fun e W' ⟨he, hg⟩ => ?_
  subst he
  exact ⟨_, rfl, post_of_below (pa := []) (pv := []) hW' (fun _ _ _ => (trodAll_cons_mk (shut_bool Try.underlying4 _) trodAll_mk0)) (fun sp _ => (trodAll_cons_mk (shut_int Try.underlying3 w0) (trodAll_cons_mk (shut_int Try.underlying5 w1) (trodAll_cons_mk (shut_int Try.underlying21 w2) trodAll_mk0)))) (fun _ _ => rfl) rfl
    hg (ok_one (by kernel_rfl) rfl (okWide_bool_mk Try.underlying4 _))⟩
theorem over : Rows.dosPlainRow.holds Try.pinned (OpenSpec.ofChange Rows.dosPlainSpec) :=
  OpenClaim.holds_of_wide 6 Try.f6 rfl rfl rfl rfl rfl rfl rfl ⟨rfl, rfl, rfl, rfl, rfl⟩ rfl rfl rfl rfl rfl (by kernel_rfl) Try.func6 (by kernel_rfl)
    (of_decide_eq_true (by kernel_rfl)) (by unfold Func.isWrapper; rw [if_neg (by decide +kernel)]; exact ⟨rfl, rfl⟩)
    (fun os started H enc _ => lifted os started H enc)
/-- the statement -/
theorem proved : Rows.DosPlainSaid := over
end Go.Proofs.Ytaopfjnmgbdkiaa.plain
