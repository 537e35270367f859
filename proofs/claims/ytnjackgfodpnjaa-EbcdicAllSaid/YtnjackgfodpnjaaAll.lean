/- Of each kind of the layer ebcdic all 256 bytes stand for different scalars, none above 15F. No condition. -/
import Derived.Test.YtnjackgfodpnjaaK
import Derived.Maps.Own
import Derived.Maps.OwnOps
import Derived.Maps.OwnSet
import Derived.Maps.Views
namespace Go.Proofs.Ytnjackgfodpnjaa.all
open Go.ChangeShapes Go.WideShapes Go.ChangeAt Go.RowKit Go.Maps
set_option linter.unusedVariables false
set_option maxRecDepth 100000
theorem each_own (k : Int) (h : isK k = true) : ∀ i < 256, fndF k (val k i) 256 0 = some i ∧ val k i ≤ 351 := by
  rcases (isK_iff k).1 h with rfl | rfl | rfl <;> decide +kernel
/-- what is known of a byte -/
theorem of_byte (k : Int) (h : isK k = true) (i : Nat) (hi : i < 256) :
    scalV k i = val k i ∧ scalB k i = true ∧ byteV k (val k i) = (i : Int) ∧ byteB k (val k i) = true ∧ val k i ≤ 351 := by
  obtain ⟨h1, h2⟩ := each_own k h i hi
  have hne : val k i ≠ 65533 := by omega
  obtain ⟨s1, s2⟩ := scal_yes h hne
  obtain ⟨b1, b2⟩ := byte_some ((fnd_eq h hne).trans h1)
  exact ⟨s1, s2, b1, b2, h2⟩
/-- the scalars of the first n bytes, as a set -/
def keys (k : Int) (n : Nat) : List Lit := (List.range n).map fun j => Lit.int .i32 (val k j)
abbrev D (k : Int) (n : Nat) : DataW Unit := setOf (.lit (.bool true)) (keys k n)
theorem D_succ (k : Int) (n : Nat) : D k (n + 1) = (D k n).put (.int .i32 (val k n)) (.lit (.bool true)) := by
  unfold D keys
  rw [List.range_succ, List.map_append]
  exact setOf_snoc _ _ _
theorem not_in (k : Int) (h : isK k = true) (n : Nat) (hn : n < 256) (z : DataW Unit) : (D k n).atKey (.int .i32 (val k n)) z = z := by
  refine atKey_of_not_has ?_ z
  rw [has_setOf _ _ _ (fun x hx => by
    obtain ⟨j, _, rfl⟩ := List.mem_map.1 hx
    exact trivial)]
  rw [List.any_eq_false]
  intro x hx
  obtain ⟨j, hj, rfl⟩ := List.mem_map.1 hx
  have hj' : j < n := by simpa using hj
  rw [sameKey_ne]
  · simp
  · intro e
    have e' : val k j = val k n := by simpa using e
    have a := (each_own k h j (by omega)).1
    have b := (each_own k h n hn).1
    rw [e', b] at a
    simp at a
    omega
theorem look_bool {w : World} {b n : Nat} {E : DataW Unit} (h : w.ownsMap Try.prog 21 (plainElem Try.prog 4) b n E) {u : Int} (hu : (Lit.int .i32 u).wf = true)
    (hat : ∀ z, E.atKey (.int .i32 u) z = z) : (Instr.lookup 36 (.map (some b)) (.int .i32 u) false).run Try.prog w = .ok (.bool false) w := by
  obtain ⟨v, ps, hrun, hv⟩ := h.lookup (int_keyed Try.underlying21) Try.underlying36 (show (zeroValue 4).run Try.prog w = .ok (.bool false) w by kernel_rfl) (plainElem_bool Try.underlying4 false) (keyOf_int_mk Try.underlying21 hu)
  rw [hat] at hv
  have : v = .bool false := by
    unfold plainElem at hv
    rw [Try.underlying4] at hv
    cases v <;> simp at hv
    rw [hv.1]
  rw [this] at hrun
  exact hrun
/-- the map stands while the world grows -/
theorem map_kept {w w' : World} {b n : Nat} {E : DataW Unit} (h : w.ownsMap Try.prog 21 (plainElem Try.prog 4) b n E) (hb : Below w.heap.size w w') : w'.ownsMap Try.prog 21 (plainElem Try.prog 4) b n E :=
  h.kept (row := none) ⟨hb.os, hb.tape, hb.output, hb.size, fun i hi _ => hb.block i hi⟩ (by simp)
def Rel (w wr : World) (b : Nat) (k : Int) (n : Nat) : Prop := w.heap.size ≤ b ∧ Below w.heap.size w wr ∧ wr.ownsMap Try.prog 21 (plainElem Try.prog 4) b n (D k n)
theorem rel_grow {w wr w1 : World} {b n : Nat} {k : Int} (h : Rel w wr b k n) (hb : Below wr.heap.size wr w1) : Rel w w1 b k n := ⟨h.1, h.2.1.trans (hb.mono h.2.1.size), map_kept h.2.2 hb⟩
theorem rel_put {w wr w1 : World} {b n : Nat} {k : Int} (h : Rel w wr b k n) (ho : w1.ownsMap Try.prog 21 (plainElem Try.prog 4) b (n + 1) ((D k n).put (.int .i32 (val k n)) (.lit (.bool true)))) (hg : wr.grownBy w1 (some b)) : Rel w w1 b k (n + 1) :=
  ⟨h.1, h.2.1.grown hg h.2.1.size (fun j hj => by have h1 := h.1; simp at hj; omega), by rw [D_succ]; exact ho⟩
set_option maxHeartbeats 400000 in
theorem walk (a : Int) (w0 : (Lit.int .i64 a).wf = true) (w : World) :
    Calls Try.prog 6 #[.int .i64 a] w fun e w' => e = .returned (.bool true) ∧ Below w.heap.size w w' := by
  obtain ⟨q, hq, eq0⟩ := pick_q a 3 (by omega) (by omega)
  have eq : wrap64 ((IntKind.u64.wrap a).tmod 3) = (q : Int) := eq0
  clear eq0
  have hmm := @run_makeMap Try.prog
  go_enter Try.func6, Try.ntmps6
  go_wp2_with fail
  refine (works_any _).mono ?_
  rintro e w1 ⟨rfl, hb1⟩
  go_wp2_with fail
  refine (kinds_any _).mono ?_
  rintro e w2 ⟨rfl, hb2, hc2⟩
  have hcq := hc2 q hq
  have hkk := kindOf_is q hq
  clear hc2
  obtain ⟨k, hk⟩ : ∃ k, kindOf q = k := ⟨_, rfl⟩
  rw [hk] at hcq hkk
  clear hk
  have s1 := hb1.size
  have hb := hb1.trans (hb2.mono s1)
  clear hb1 hb2 s1
  go_wp2_with fail
  have hstart : Rel w (w2.alloc (.map #[] 0)) w2.heap.size k 0 := ⟨hb.size, hb.alloc hb.size _, World.ownsMap_made _ _ _ _⟩
  obtain ⟨B, hB⟩ : ∃ B, w2.heap.size = B := ⟨_, rfl⟩
  rw [hB] at hstart ⊢
  clear eq hcq hq hmm hB hb
  go_loopw [6] (fun i wr => ∃ n : Nat, n ≤ 256 ∧ i = .int .i64 n ∧ Rel w wr B k n) (fun i _ => 256 - (intOf i).toNat)
  case atStart => exact ⟨0, by omega, rfl, hstart⟩
  case round =>
    obtain ⟨n, hn, rfl, hr⟩ := hrel
    clear hstart
    by_cases hlt : n < 256
    · obtain ⟨e1, e2, e3, e4, e5⟩ := of_byte k hkk n hlt
      have hbd := tab_bd k hkk n hlt
      have g1 := fun W => scalar_any k n W hlt
      rw [e1, e2] at g1
      have g2 := fun W => byte_any k (val k n) W
      rw [e3, e4] at g2
      have G1 := Lib.hid g1
      have G2 := Lib.hid g2
      clear g1 g2 e1 e2 e3 e4
      go_wp2_with fail
      refine (G1.out _).mono ?_
      rintro e x1 ⟨rfl, hx1⟩
      have hr1 := rel_grow hr hx1
      clear hr hx1
      go_wp2_with fail
      refine (G2.out _).mono ?_
      rintro e x2 ⟨rfl, hx2⟩
      have hr2 := rel_grow hr1 hx2
      clear hr1 hx2
      have hwf : (Lit.int .i32 (val k n)).wf = true := WalkArith.wf_i32 (by omega)
      have hlook := look_bool hr2.2.2 hwf (not_in k hkk n hlt)
      have HR := Lib.hid hr2
      clear hr2
      go_wp2_with ((at_mapUpdate; refine wpList_mapUpdate_own _ rfl _ _ _ 36 rfl 21 4 (int_keyed Try.underlying21) Try.underlying36 (plainElem Try.prog 4) B n (D k n) rfl HR.out.2.2 ?c1 _ _ (.int .i32 (val k n)) rfl rfl (keyOf_int_mk Try.underlying21 hwf) (.lit (.bool true)) [] (plainElem_bool Try.underlying4 true) ?_))
      case c1 => unfold maxLen; omega
      intro w1 hown1 hgrow1
      have R := rel_put HR.out hown1 hgrow1
      clear hown1 hgrow1 hlook
      go_wp2_with fail
      go_roundw
      case rel => exact ⟨n + 1, by omega, by go_num, R⟩
      case measure => simp [intOf]; omega
    · go_wp2_with fail
      go_ret
      exact ⟨rfl, hr.2.1⟩
theorem own : ownKnob Try.prog.godebug = none := by kernel_rfl
set_option maxRecDepth 100000 in
theorem lifted (os : Os) (started : os.Started) (H : Type) (enc : TypeId × Value → H) :
    ReturnsInHanded {} Try.checked os 6 .any (Rows.ebcdicAllSpec.pre6 enc Try.prog Try.f6 Rows.ebcdicAllRow.domain false) (Rows.ebcdicAllSpec.post enc Try.prog Try.f6 false true false false) := by
  refine returnsInHanded_of_change (C := Try.checked) own started (by kernel_rfl) Try.func6
    (ChangeSpec.witness6 (enc := enc) (C := Try.checked) false ⟨#[], #[.int .i64 0], []⟩ 8 (by kernel_rfl) (by kernel_rfl) (by kernel_rfl) (by kernel_rfl)) ?_
  intro W base args ds gs before hval0 hW hcnd _
  have hval : ∀ (j : Nat) t v, Try.f6.params[j]? = some t → args[j]? = some v → Value.okWide Try.prog W .any base t v := hval0
  have hW' := hW
  obtain ⟨p, q, hA0, hV, rfl, hfz, hnd⟩ := hW
  have hA : DataW.TrodAll enc Try.prog W 0 (fun _ => true) true Try.f6.params.toList args.toList ds p := hA0
  rw [Try.params6] at hA hval
  obtain ⟨v0, vs0, d0, ds0, p0, q0, hargs, rfl, rfl, h0, r0⟩ := trodAll_cons hA
  obtain ⟨rfl, rfl, rfl⟩ := trodAll_nil r0
  obtain rfl : args = #[v0] := by cases args; simp_all
  obtain ⟨rfl, rfl⟩ := trodVars_none hV
  obtain ⟨a0, rfl, rfl, rfl, w0⟩ := open_int Try.underlying3 (hval 0 3 v0 rfl rfl) h0
  clear hA0 hval0
  simp only [List.append_nil] at hW'
  refine (walk a0 w0 W).mono fun e W' ⟨he, hg⟩ => ?_
  subst he
  exact ⟨_, rfl, post_of_below (pa := []) (pv := []) hW' (fun _ _ _ => (trodAll_cons_mk (shut_bool Try.underlying4 _) trodAll_mk0)) (fun sp _ => (trodAll_cons_mk (shut_int Try.underlying3 w0) trodAll_mk0)) (fun _ _ => rfl) rfl
    hg (ok_one (by kernel_rfl) rfl (okWide_bool_mk Try.underlying4 _))⟩
theorem over : Rows.ebcdicAllRow.holds Try.pinned (OpenSpec.ofChange Rows.ebcdicAllSpec) :=
  OpenClaim.holds_of_wide 6 Try.f6 rfl rfl rfl rfl rfl rfl rfl ⟨rfl, rfl, rfl, rfl, rfl⟩ rfl rfl rfl rfl rfl (by kernel_rfl) Try.func6 (by kernel_rfl)
    (of_decide_eq_true (by kernel_rfl)) (by unfold Func.isWrapper; rw [if_neg (by decide +kernel)]; exact ⟨rfl, rfl⟩)
    (fun os started H enc _ => lifted os started H enc)
/-- the statement -/
theorem proved : Rows.EbcdicAllSaid := over
end Go.Proofs.Ytnjackgfodpnjaa.all
