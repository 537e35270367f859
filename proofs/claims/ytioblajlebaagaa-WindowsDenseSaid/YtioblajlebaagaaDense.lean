/- Each kind's table of the layer windows is the dense one of its list as a text: all 256 bytes, and every number's byte. No condition. -/
import Derived.Test.YtioblajlebaagaaD
namespace Go.Proofs.Ytioblajlebaagaa.denselaw
open Go.ChangeShapes Go.WideShapes Go.ChangeAt Go.RowKit
set_option linter.unusedVariables false
theorem flat_shape {w w' : World} {k : Int} {v : Value} (h : FlatSays w k v w') (hk : isK k = true) :
    ∃ g c, v = .slice (some ⟨g, 0, none⟩) (lst k).length c ∧ g < w'.heap.size ∧ ∀ j, (hj : j < (lst k).length) → w'.cell? ⟨g, j, none⟩ = some (.int .i32 (((lst k)[j] : Nat) : Int)) := by
  have ho := h.2.2 hk
  have hl := lst_len k hk
  rcases ho.2 with ⟨_, hn⟩ | ⟨g, c, cur, rfl, hg, hb, _⟩
  · omega
  · refine ⟨g, c, by rw [hl], (Array.getElem?_eq_some_iff.1 hb).1, fun j hj => ?_⟩
    rw [ho.cellAt j (by omega), lst_at k hk j hj]
    simp [rowV, List.getElem?_map, List.getElem?_range (show j < 256 by omega)]
set_option maxRecDepth 100000
set_option maxHeartbeats 1000000 in
theorem walk (a u : Int) (w0 : (Lit.int .i64 a).wf = true) (w1 : (Lit.int .i32 u).wf = true) (w : World) :
    Calls Try.prog 7 #[.int .i64 a, .int .i32 u] w fun e w' => e = .returned (.bool true) ∧ Below w.heap.size w w' := by
  have hwu := w1
  obtain ⟨q, hq, eq0⟩ := pick_q a 10 (by omega) (by omega)
  have eq : wrap64 ((IntKind.u64.wrap a).tmod 10) = (q : Int) := eq0
  clear eq0
  go_enter Try.func7, Try.ntmps7
  go_wp2_with fail
  refine (works_any _).mono ?_
  rintro e w1 ⟨rfl, hb1⟩
  go_wp2_with fail
  refine (kinds_any _).mono ?_
  rintro e w2 ⟨rfl, hb2, hc2⟩
  have hcq := hc2 q hq
  have hkk := kindOf_is q hq
  clear hc2
  obtain ⟨k, hk⟩ : ∃ k, kindOf q = k := ⟨_, rfl⟩
  rw [hk] at hcq hkk
  clear hk
  have s1 := hb1.size
  have hb := hb1.trans (hb2.mono s1)
  clear hb1 hb2 s1
  go_wp2_with fail
  clear eq hcq hq
  refine (flat_any k _).mono ?_
  rintro e w3 ⟨v, rfl, hs3⟩
  obtain ⟨g, c, rfl, hg, hcell⟩ := flat_shape hs3 hkk
  have s2 := hb.size
  have hb3 := hb.trans (hs3.1.mono s2)
  have HC := Lib.hid hcell
  clear hs3 hb s2 hcell
  go_wp2_with fail
  have hll := lst_len k hkk
  refine (text_any (lst k) g c _ (lst_ok k hkk) (by omega) hg HC.out).mono ?_
  rintro e w4 ⟨rfl, hb4⟩
  have hb5 := hb3.trans (hb4.mono hb3.size)
  clear hb3 hb4 HC hg hll
  go_wp2_with fail
  refine (new_any k _ hkk).mono ?_
  rintro e w5 ⟨t, rfl, hb6, hmade⟩
  have hb7 := hb5.trans (hb6.mono hb5.size)
  have HM := Lib.hid hmade
  clear hb5 hb6 hmade
  go_wp2_with fail
  go_loopw [9] (fun i wr => ∃ n : Nat, n ≤ 256 ∧ i = .int .i64 n ∧ Below w.heap.size w wr ∧ Made wr t k) (fun i _ => 256 - (intOf i).toNat)
  case atStart => exact ⟨0, by omega, rfl, hb7, HM.out⟩
  case round =>
    obtain ⟨n, hn, rfl, hbr, hmr⟩ := hrel
    clear hb7 HM
    have HR := Lib.hid hmr
    clear hmr
    by_cases hlt : n < 256
    · go_wp2_with fail
      refine (scalar_any k n _ hlt).mono ?_
      rintro e x1 ⟨rfl, hx1⟩
      have hbn := hbr.trans (hx1.mono hbr.size)
      have HN := Lib.hid (made_below HR.out hx1)
      clear hbr hx1 HR
      go_wp2_with fail
      refine (tscalar_any k t n _ hkk hlt HN.out).mono ?_
      rintro e x2 ⟨rfl, rfl⟩
      go_wp2_with fail
      go_roundw
      case rel => exact ⟨n + 1, by omega, by go_num, hbn, HN.out⟩
      case measure => simp [intOf]; omega
    · go_wp2_with fail
      refine (byte_any k u _).mono ?_
      rintro e x1 ⟨rfl, hx1⟩
      have hbn := hbr.trans (hx1.mono hbr.size)
      have HN := Lib.hid (made_below HR.out hx1)
      clear hbr hx1 HR
      go_wp2_with fail
      refine (tbyte_any k u t _ hkk hwu HN.out).mono ?_
      rintro e x2 ⟨rfl, rfl⟩
      go_wp2_with fail
      go_ret
      exact ⟨rfl, hbn⟩
theorem own : ownKnob Try.prog.godebug = none := by kernel_rfl
set_option maxRecDepth 100000 in
theorem lifted (os : Os) (started : os.Started) (H : Type) (enc : TypeId × Value → H) :
    ReturnsInHanded {} Try.checked os 7 .any (Rows.windowsDenseSpec.pre6 enc Try.prog Try.f7 Rows.windowsDenseRow.domain false) (Rows.windowsDenseSpec.post enc Try.prog Try.f7 false true false false) := by
  refine returnsInHanded_of_change (C := Try.checked) own started (by kernel_rfl) Try.func7
    (ChangeSpec.witness6 (enc := enc) (C := Try.checked) false ⟨#[], #[.int .i64 0, .int .i32 0], []⟩ 8 (by kernel_rfl) (by kernel_rfl) (by kernel_rfl) (by kernel_rfl)) ?_
  intro W base args ds gs before hval0 hW hcnd _
  have hval : ∀ (j : Nat) t v, Try.f7.params[j]? = some t → args[j]? = some v → Value.okWide Try.prog W .any base t v := hval0
  have hW' := hW
  obtain ⟨p, q, hA0, hV, rfl, hfz, hnd⟩ := hW
  have hA : DataW.TrodAll enc Try.prog W 0 (fun _ => true) true Try.f7.params.toList args.toList ds p := hA0
  rw [Try.params7] at hA hval
  obtain ⟨v0, vs0, d0, ds0, p0, q0, hargs, rfl, rfl, h0, r0⟩ := trodAll_cons hA
  obtain ⟨v1, vs1, d1, ds1, p1, q1, rfl, rfl, rfl, h1, r1⟩ := trodAll_cons r0
  obtain ⟨rfl, rfl, rfl⟩ := trodAll_nil r1
  obtain rfl : args = #[v0, v1] := by cases args; simp_all
  obtain ⟨rfl, rfl⟩ := trodVars_none hV
  obtain ⟨a0, rfl, rfl, rfl, w0⟩ := open_int Try.underlying3 (hval 0 3 v0 rfl rfl) h0
  obtain ⟨a1, rfl, rfl, rfl, w1⟩ := open_int Try.underlying21 (hval 1 21 v1 rfl rfl) h1
  clear hA0 hval0
  simp only [List.append_nil] at hW'
  refine (walk a0 a1 w0 w1 W).mono fun e W' ⟨he, hg⟩ => ?_
  subst he
  exact ⟨_, rfl, post_of_below (pa := []) (pv := []) hW' (fun _ _ _ => (trodAll_cons_mk (shut_bool Try.underlying4 _) trodAll_mk0)) (fun sp _ => (trodAll_cons_mk (shut_int Try.underlying3 w0) (trodAll_cons_mk (shut_int Try.underlying21 w1) trodAll_mk0))) (fun _ _ => rfl) rfl
    hg (ok_one (by kernel_rfl) rfl (okWide_bool_mk Try.underlying4 _))⟩
theorem over : Rows.windowsDenseRow.holds Try.pinned (OpenSpec.ofChange Rows.windowsDenseSpec) :=
  OpenClaim.holds_of_wide 7 Try.f7 rfl rfl rfl rfl rfl rfl rfl ⟨rfl, rfl, rfl, rfl, rfl⟩ rfl rfl rfl rfl rfl (by kernel_rfl) Try.func7 (by kernel_rfl)
    (of_decide_eq_true (by kernel_rfl)) (by unfold Func.isWrapper; rw [if_neg (by decide +kernel)]; exact ⟨rfl, rfl⟩)
    (fun os started H enc _ => lifted os started H enc)
/-- the statement -/
theorem proved : Rows.WindowsDenseSaid := over
end Go.Proofs.Ytioblajlebaagaa.denselaw
