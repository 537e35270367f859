/- Of each kind of the layer iso the scalar of a scalar's byte is that scalar, and the byte of a byte's scalar is no greater and stands for the same. No condition. -/
import Derived.Test.YtageajpchmgehaaK
namespace Go.Proofs.Ytageajpchmgehaa.back
open Go.ChangeShapes Go.WideShapes Go.ChangeAt Go.RowKit
set_option linter.unusedVariables false
set_option maxRecDepth 100000
set_option maxHeartbeats 400000 in
theorem walk (a u : Int) (w0 : (Lit.int .i64 a).wf = true) (w1 : (Lit.int .i32 u).wf = true) (w : World) :
    Calls Try.prog 5 #[.int .i64 a, .int .i32 u] w fun e w' => e = .returned (.bool true) ∧ Below w.heap.size w w' := by
  obtain ⟨q, hq, eq0⟩ := pick_q a 15 (by omega) (by omega)
  have eq : wrap64 ((IntKind.u64.wrap a).tmod 15) = (q : Int) := eq0
  clear eq0
  go_enter Try.func5, Try.ntmps5
  go_wp2_with fail
  refine (works_any _).mono ?_
  rintro e w1 ⟨rfl, hb1⟩
  go_wp2_with fail
  refine (kinds_any _).mono ?_
  rintro e w2 ⟨rfl, hb2, hc2⟩
  have hcq := hc2 q hq
  clear hc2
  obtain ⟨k, hk⟩ : ∃ k, kindOf q = k := ⟨_, rfl⟩
  rw [hk] at hcq
  clear hk
  have s1 := hb1.size
  have hb := hb1.trans (hb2.mono s1)
  clear hb1 hb2 s1
  go_wp2_with fail
  clear eq hcq hq
  cases hB : byteB k u with
  | true =>
    obtain ⟨j, hj, hj256, hsB, hsV⟩ := byte_is hB
    have h1 := fun W => byte_any k u W
    rw [hj, hB] at h1
    have h2 := fun W => scalar_any k j W hj256
    rw [hsB, hsV] at h2
    have H1 := Lib.hid h1
    have H2 := Lib.hid h2
    clear h1 h2 hj hsB hsV hB
    refine (H1.out _).mono ?_
    rintro e w3 ⟨rfl, hb3⟩
    go_wp2_with fail
    refine (H2.out _).mono ?_
    rintro e w4 ⟨rfl, hb4⟩
    have s2 := hb.size
    have s3 := hb3.size
    have hb' := (hb.trans (hb3.mono s2)).trans (hb4.mono (by omega))
    clear hb hb3 hb4 s2 s3
    go_wp2_with fail
    go_loopw [11] (fun i wr => ∃ n : Nat, n ≤ 256 ∧ i = .int .i64 n ∧ Below w.heap.size w wr) (fun i _ => 256 - (intOf i).toNat)
    case atStart => exact ⟨0, by omega, rfl, hb'⟩
    case round =>
      obtain ⟨n, hn, rfl, hbr⟩ := hrel
      clear hb'
      by_cases hlt : n < 256
      · cases hS : scalB k n with
        | true =>
          obtain ⟨hB1, j1, hj1, hle, hsB1, hsV1⟩ := byte_of_scalar hlt hS
          have g1 := fun W => scalar_any k n W hlt
          rw [hS] at g1
          have g2 := fun W => byte_any k (scalV k n) W
          rw [hB1, hj1] at g2
          have g3 := fun W => scalar_any k j1 W (by omega)
          rw [hsB1, hsV1] at g3
          have G1 := Lib.hid g1
          have G2 := Lib.hid g2
          have G3 := Lib.hid g3
          clear g1 g2 g3 hB1 hj1 hsB1 hsV1 hS
          go_wp2_with fail
          refine (G1.out _).mono ?_
          rintro e x1 ⟨rfl, hx1⟩
          go_wp2_with fail
          refine (G2.out _).mono ?_
          rintro e x2 ⟨rfl, hx2⟩
          go_wp2_with fail
          refine (G3.out _).mono ?_
          rintro e x3 ⟨rfl, hx3⟩
          have t0 := hbr.size
          have t1 := hx1.size
          have t2 := hx2.size
          have hbn := ((hbr.trans (hx1.mono t0)).trans (hx2.mono (by omega))).trans (hx3.mono (by omega))
          clear hbr hx1 hx2 hx3 t0 t1 t2
          have hgt : ¬ ((n : Int) < (j1 : Int)) := by omega
          go_wp2_with fail
          go_roundw
          case rel => exact ⟨n + 1, by omega, by go_num, hbn⟩
          case measure => simp [intOf]; omega
        | false =>
          have g1 := fun W => scalar_any k n W hlt
          rw [hS] at g1
          have G1 := Lib.hid g1
          clear g1 hS
          go_wp2_with fail
          refine (G1.out _).mono ?_
          rintro e x1 ⟨rfl, hx1⟩
          have hbn := hbr.trans (hx1.mono hbr.size)
          clear hbr hx1
          go_wp2_with fail
          go_roundw
          case rel => exact ⟨n + 1, by omega, by go_num, hbn⟩
          case measure => simp [intOf]; omega
      · go_wp2_with fail
        go_ret
        exact ⟨rfl, hbr⟩
  | false =>
    have h1 := fun W => byte_any k u W
    rw [hB] at h1
    have H1 := Lib.hid h1
    clear h1 hB
    refine (H1.out _).mono ?_
    rintro e w3 ⟨rfl, hb3⟩
    have s2 := hb.size
    have hb' := hb.trans (hb3.mono s2)
    clear hb hb3 s2
    go_wp2_with fail
    go_loopw [11] (fun i wr => ∃ n : Nat, n ≤ 256 ∧ i = .int .i64 n ∧ Below w.heap.size w wr) (fun i _ => 256 - (intOf i).toNat)
    case atStart => exact ⟨0, by omega, rfl, hb'⟩
    case round =>
      obtain ⟨n, hn, rfl, hbr⟩ := hrel
      clear hb'
      by_cases hlt : n < 256
      · cases hS : scalB k n with
        | true =>
          obtain ⟨hB1, j1, hj1, hle, hsB1, hsV1⟩ := byte_of_scalar hlt hS
          have g1 := fun W => scalar_any k n W hlt
          rw [hS] at g1
          have g2 := fun W => byte_any k (scalV k n) W
          rw [hB1, hj1] at g2
          have g3 := fun W => scalar_any k j1 W (by omega)
          rw [hsB1, hsV1] at g3
          have G1 := Lib.hid g1
          have G2 := Lib.hid g2
          have G3 := Lib.hid g3
          clear g1 g2 g3 hB1 hj1 hsB1 hsV1 hS
          go_wp2_with fail
          refine (G1.out _).mono ?_
          rintro e x1 ⟨rfl, hx1⟩
          go_wp2_with fail
          refine (G2.out _).mono ?_
          rintro e x2 ⟨rfl, hx2⟩
          go_wp2_with fail
          refine (G3.out _).mono ?_
          rintro e x3 ⟨rfl, hx3⟩
          have t0 := hbr.size
          have t1 := hx1.size
          have t2 := hx2.size
          have hbn := ((hbr.trans (hx1.mono t0)).trans (hx2.mono (by omega))).trans (hx3.mono (by omega))
          clear hbr hx1 hx2 hx3 t0 t1 t2
          have hgt : ¬ ((n : Int) < (j1 : Int)) := by omega
          go_wp2_with fail
          go_roundw
          case rel => exact ⟨n + 1, by omega, by go_num, hbn⟩
          case measure => simp [intOf]; omega
        | false =>
          have g1 := fun W => scalar_any k n W hlt
          rw [hS] at g1
          have G1 := Lib.hid g1
          clear g1 hS
          go_wp2_with fail
          refine (G1.out _).mono ?_
          rintro e x1 ⟨rfl, hx1⟩
          have hbn := hbr.trans (hx1.mono hbr.size)
          clear hbr hx1
          go_wp2_with fail
          go_roundw
          case rel => exact ⟨n + 1, by omega, by go_num, hbn⟩
          case measure => simp [intOf]; omega
      · go_wp2_with fail
        go_ret
        exact ⟨rfl, hbr⟩
theorem own : ownKnob Try.prog.godebug = none := by kernel_rfl
set_option maxRecDepth 100000 in
theorem lifted (os : Os) (started : os.Started) (H : Type) (enc : TypeId × Value → H) :
    ReturnsInHanded {} Try.checked os 5 .any (Rows.isoBackSpec.pre6 enc Try.prog Try.f5 Rows.isoBackRow.domain false) (Rows.isoBackSpec.post enc Try.prog Try.f5 false true false false) := by
  refine returnsInHanded_of_change (C := Try.checked) own started (by kernel_rfl) Try.func5
    (ChangeSpec.witness6 (enc := enc) (C := Try.checked) false ⟨#[], #[.int .i64 0, .int .i32 0], []⟩ 8 (by kernel_rfl) (by kernel_rfl) (by kernel_rfl) (by kernel_rfl)) ?_
  intro W base args ds gs before hval0 hW hcnd _
  have hval : ∀ (j : Nat) t v, Try.f5.params[j]? = some t → args[j]? = some v → Value.okWide Try.prog W .any base t v := hval0
  have hW' := hW
  obtain ⟨p, q, hA0, hV, rfl, hfz, hnd⟩ := hW
  have hA : DataW.TrodAll enc Try.prog W 0 (fun _ => true) true Try.f5.params.toList args.toList ds p := hA0
  rw [Try.params5] at hA hval
  obtain ⟨v0, vs0, d0, ds0, p0, q0, hargs, rfl, rfl, h0, r0⟩ := trodAll_cons hA
  obtain ⟨v1, vs1, d1, ds1, p1, q1, rfl, rfl, rfl, h1, r1⟩ := trodAll_cons r0
  obtain ⟨rfl, rfl, rfl⟩ := trodAll_nil r1
  obtain rfl : args = #[v0, v1] := by cases args; simp_all
  obtain ⟨rfl, rfl⟩ := trodVars_none hV
  obtain ⟨a0, rfl, rfl, rfl, w0⟩ := open_int Try.underlying3 (hval 0 3 v0 rfl rfl) h0
  obtain ⟨a1, rfl, rfl, rfl, w1⟩ := open_int Try.underlying21 (hval 1 21 v1 rfl rfl) h1
  clear hA0 hval0
  simp only [List.append_nil] at hW'
  refine (walk a0 a1 w0 w1 W).mono fun e W' ⟨he, hg⟩ => ?_
  subst he
  exact ⟨_, rfl, post_of_below (pa := []) (pv := []) hW' (fun _ _ _ => (trodAll_cons_mk (shut_bool Try.underlying4 _) trodAll_mk0)) (fun sp _ => (trodAll_cons_mk (shut_int Try.underlying3 w0) (trodAll_cons_mk (shut_int Try.underlying21 w1) trodAll_mk0))) (fun _ _ => rfl) rfl
    hg (ok_one (by kernel_rfl) rfl (okWide_bool_mk Try.underlying4 _))⟩
theorem over : Rows.isoBackRow.holds Try.pinned (OpenSpec.ofChange Rows.isoBackSpec) :=
  OpenClaim.holds_of_wide 5 Try.f5 rfl rfl rfl rfl rfl rfl rfl ⟨rfl, rfl, rfl, rfl, rfl⟩ rfl rfl rfl rfl rfl (by kernel_rfl) Try.func5 (by kernel_rfl)
    (of_decide_eq_true (by kernel_rfl)) (by unfold Func.isWrapper; rw [if_neg (by decide +kernel)]; exact ⟨rfl, rfl⟩)
    (fun os started H enc _ => lifted os started H enc)
/-- the statement -/
theorem proved : Rows.IsoBackSaid := over
end Go.Proofs.Ytageajpchmgehaa.back
