/- For every kind the list that the layer iso tells is the reference's, also when the one told before has been written over. No condition. -/
import Derived.Test.YtageajpchmgehaaL
namespace Go.Proofs.Ytageajpchmgehaa.flatlaw
open Go.ChangeShapes Go.WideShapes Go.ChangeAt Go.RowKit
set_option linter.unusedVariables false
theorem flat_shape {w w' : World} {k : Int} {v : Value} (h : FlatSays w k v w') (hk : isK k = true) :
    ∃ g c, v = .slice (some ⟨g, 0, none⟩) 256 c ∧ w.heap.size ≤ g ∧ g < w'.heap.size ∧ Cells w' g 256 (val k) ∧ (∀ j, w'.frozen? ⟨g, j, none⟩ = false) := by
  have ho := h.2.2 hk
  rcases ho.2 with ⟨_, hn⟩ | ⟨g, c, cur, rfl, hg, hb, _⟩
  · omega
  · refine ⟨g, c, rfl, hg, (Array.getElem?_eq_some_iff.1 hb).1, fun j hj => ?_, fun j => ho.frozenAt j⟩
    rw [ho.cellAt j (by omega)]
    simp [rowV, List.getElem?_map, List.getElem?_range hj]
/-- one list is being written over; the other stands -/
def Over (w wr : World) (g1 g2 : Nat) (k : Int) : Prop :=
  Below w.heap.size w wr ∧ Cells wr g2 256 (val k) ∧ (∀ j, j < 256 → ∃ x, wr.cell? ⟨g1, j, none⟩ = some x) ∧ (∀ j, wr.frozen? ⟨g1, j, none⟩ = false) ∧ g2 < wr.heap.size
theorem over_next {w wr : World} {g1 g2 q : Nat} {k : Int} (h : Over w wr g1 g2 k) (h1 : w.heap.size ≤ g1) (hne : g1 ≠ g2) (u : Value) : Over w (wr.setCell ⟨g1, q, none⟩ u) g1 g2 k := by
  obtain ⟨a, b, c, d, e⟩ := h
  refine ⟨a.setCell h1 u, fun j hj => (World.cell?_setCell_other _ _ _ _ (by first | (simp; done) | (simp; omega))).trans (b j hj), fun j hj => ?_, fun j => (World.frozen?_setCell _ _ _ _).trans (d j), by simpa [World.setCell] using e⟩
  obtain ⟨x, hx⟩ := c j hj
  by_cases hq : j = q
  · subst hq
    exact ⟨u, World.cell?_setCell_same _ _ _ hx⟩
  · exact ⟨x, (World.cell?_setCell_other _ _ _ _ (by first | (simp; done) | (simp; omega))).trans hx⟩
set_option maxRecDepth 100000
set_option maxHeartbeats 400000 in
theorem walk_no (k : Int) (hk : isK k = false) (w : World) :
    Calls Try.prog 3 #[.int .i64 k] w fun e w' => e = .returned (.bool true) ∧ Below w.heap.size w w' := by
  go_enter Try.func3, Try.ntmps3
  go_wp2_with fail
  refine (flat_any k _).mono ?_
  rintro e w1 ⟨v1, rfl, hb1, hn1, _⟩
  obtain rfl := hn1 hk
  clear hn1
  go_wp2_with fail
  refine (rflat_any k _).mono ?_
  rintro e w2 ⟨v2, rfl, hb2, hn2, _⟩
  obtain rfl := hn2 hk
  clear hn2
  go_wp2_with fail
  refine (same_nil _).mono ?_
  rintro e w3 ⟨rfl, m, rfl⟩
  go_wp2_with fail
  refine wp_loop_rounds 1 ?_
  rw [rounds_succ]
  go_wp2_with fail
  refine (flat_any k _).mono ?_
  rintro e w4 ⟨v4, rfl, hb4, hn4, _⟩
  obtain rfl := hn4 hk
  clear hn4
  go_wp2_with fail
  refine (same_nil _).mono ?_
  rintro e w5 ⟨rfl, m5, rfl⟩
  go_wp2_with fail
  go_ret
  have s1 := hb1.size
  have s2 := hb2.size
  exact ⟨rfl, below_drewN ((below_drewN (hb1.trans (hb2.mono s1)) m).trans (hb4.mono (by simpa using Nat.le_trans s1 s2))) _⟩
set_option maxHeartbeats 400000 in
theorem walk_yes (k : Int) (hk : isK k = true) (w : World) :
    Calls Try.prog 3 #[.int .i64 k] w fun e w' => e = .returned (.bool true) ∧ Below w.heap.size w w' := by
  go_enter Try.func3, Try.ntmps3
  go_wp2_with fail
  refine (flat_any k _).mono ?_
  rintro e w1 ⟨v1, rfl, hs1⟩
  obtain ⟨g1, c1, rfl, lo1, hi1, ce1, fr1⟩ := flat_shape hs1 hk
  have hb1 := hs1.1
  clear hs1
  go_wp2_with fail
  refine (rflat_any k _).mono ?_
  rintro e w2 ⟨v2, rfl, hs2⟩
  obtain ⟨g2, c2, rfl, lo2, hi2, ce2, fr2⟩ := flat_shape hs2 hk
  have hb2 := hs2.1
  clear hs2
  have ce1' : Cells w2 g1 256 (val k) := fun j hj => (hb2.cell (p := ⟨g1, j, none⟩) hi1).trans (ce1 j hj)
  have fr1' : ∀ j, w2.frozen? ⟨g1, j, none⟩ = false := fun j => (hb2.frozen (p := ⟨g1, j, none⟩) hi1).trans (fr1 j)
  have s1 := hb1.size
  have hb := hb1.trans (hb2.mono s1)
  have O : ∀ m, Over w (w2.drewN m) g1 g2 k := fun m => ⟨below_drewN hb m, ce2, fun j hj => ⟨_, ce1' j hj⟩, fr1', hi2⟩
  have ce2' := ce2
  have HC := Lib.hid (And.intro ce1' ce2')
  clear ce1 fr1 ce2 fr2 ce1' fr1' ce2'
  go_wp2_with fail
  refine (same_any g1 g2 256 c1 c2 (val k) _ (by omega) HC.out.1 HC.out.2).mono ?_
  rintro e w3 ⟨rfl, m, rfl⟩
  go_wp2_with fail
  go_loopw [5] (fun i wr => ∃ q : Nat, q ≤ 256 ∧ i = .int .i64 q ∧ Over w wr g1 g2 k) (fun i _ => 256 - (intOf i).toNat)
  case atStart => exact ⟨0, by omega, rfl, O m⟩
  case round =>
    obtain ⟨q, hq, rfl, ho⟩ := hrel
    by_cases hlt : q < 256
    · obtain ⟨x, hx⟩ := ho.2.2.1 q hlt
      have hf := ho.2.2.2.1 q
      have R := over_next (q := q) ho (by omega) (by omega) (.int .i32 7)
      clear ho
      go_wp2_with fail
      go_roundw
      case rel => exact ⟨q + 1, by omega, by go_num, R⟩
      case measure => simp [intOf]; omega
    · obtain ⟨hbr, hcr, _, _, hgr⟩ := ho
      have HR := Lib.hid hcr
      clear hcr
      go_wp2_with fail
      refine (flat_any k _).mono ?_
      rintro e w4 ⟨v4, rfl, hs4⟩
      obtain ⟨g4, c4, rfl, lo4, hi4, ce4, fr4⟩ := flat_shape hs4 hk
      have hb4 := hs4.1
      have H4 := Lib.hid (And.intro ce4 (show Cells w4 g2 256 (val k) from fun j hj => (hb4.cell (p := ⟨g2, j, none⟩) hgr).trans (HR.out j hj)))
      clear hs4 ce4 fr4
      go_wp2_with fail
      refine (same_any g4 g2 256 c4 c2 (val k) _ (by omega) H4.out.1 H4.out.2).mono ?_
      rintro e w5 ⟨rfl, m5, rfl⟩
      go_wp2_with fail
      go_ret
      exact ⟨rfl, below_drewN (hbr.trans (hb4.mono hbr.size)) _⟩
theorem walk (k : Int) (w0 : (Lit.int .i64 k).wf = true) (w : World) :
    Calls Try.prog 3 #[.int .i64 k] w fun e w' => e = .returned (.bool true) ∧ Below w.heap.size w w' := by
  cases hk : isK k with
  | false => exact walk_no k hk w
  | true => exact walk_yes k hk w
theorem own : ownKnob Try.prog.godebug = none := by kernel_rfl
set_option maxRecDepth 100000 in
theorem lifted (os : Os) (started : os.Started) (H : Type) (enc : TypeId × Value → H) :
    ReturnsInHanded {} Try.checked os 3 .any (Rows.isoFlatSpec.pre6 enc Try.prog Try.f3 Rows.isoFlatRow.domain false) (Rows.isoFlatSpec.post enc Try.prog Try.f3 false true false false) := by
  refine returnsInHanded_of_change (C := Try.checked) own started (by kernel_rfl) Try.func3
    (ChangeSpec.witness6 (enc := enc) (C := Try.checked) false ⟨#[], #[.int .i64 0], []⟩ 8 (by kernel_rfl) (by kernel_rfl) (by kernel_rfl) (by kernel_rfl)) ?_
  intro W base args ds gs before hval0 hW hcnd _
  have hval : ∀ (j : Nat) t v, Try.f3.params[j]? = some t → args[j]? = some v → Value.okWide Try.prog W .any base t v := hval0
  have hW' := hW
  obtain ⟨p, q, hA0, hV, rfl, hfz, hnd⟩ := hW
  have hA : DataW.TrodAll enc Try.prog W 0 (fun _ => true) true Try.f3.params.toList args.toList ds p := hA0
  rw [Try.params3] at hA hval
  obtain ⟨v0, vs0, d0, ds0, p0, q0, hargs, rfl, rfl, h0, r0⟩ := trodAll_cons hA
  obtain ⟨rfl, rfl, rfl⟩ := trodAll_nil r0
  obtain rfl : args = #[v0] := by cases args; simp_all
  obtain ⟨rfl, rfl⟩ := trodVars_none hV
  obtain ⟨a0, rfl, rfl, rfl, w0⟩ := open_int Try.underlying3 (hval 0 3 v0 rfl rfl) h0
  clear hA0 hval0
  simp only [List.append_nil] at hW'
  refine (walk a0 w0 W).mono fun e W' ⟨he, hg⟩ => ?_
  subst he
  exact ⟨_, rfl, post_of_below (pa := []) (pv := []) hW' (fun _ _ _ => (trodAll_cons_mk (shut_bool Try.underlying4 _) trodAll_mk0)) (fun sp _ => (trodAll_cons_mk (shut_int Try.underlying3 w0) trodAll_mk0)) (fun _ _ => rfl) rfl
    hg (ok_one (by kernel_rfl) rfl (okWide_bool_mk Try.underlying4 _))⟩
theorem over : Rows.isoFlatRow.holds Try.pinned (OpenSpec.ofChange Rows.isoFlatSpec) :=
  OpenClaim.holds_of_wide 3 Try.f3 rfl rfl rfl rfl rfl rfl rfl ⟨rfl, rfl, rfl, rfl, rfl⟩ rfl rfl rfl rfl rfl (by kernel_rfl) Try.func3 (by kernel_rfl)
    (of_decide_eq_true (by kernel_rfl)) (by unfold Func.isWrapper; rw [if_neg (by decide +kernel)]; exact ⟨rfl, rfl⟩)
    (fun os started H enc _ => lifted os started H enc)
/-- the statement -/
theorem proved : Rows.IsoFlatSaid := over
end Go.Proofs.Ytageajpchmgehaa.flatlaw
