/- A part of the proofs of this seat: rules of a logic of owned and of lent memory, what functions compute, or their walks. -/
import Derived.Test.YtclediplagkblaaGreatOpn3
import Derived.Test.YtclediplagkblaaGreatRow0
import Derived.Test.YtclediplagkblaaGreatWk12
import Derived.Test.YtclediplagkblaaGreatRows
import Derived.WalkKit
import Derived.ProofKit
import Derived.OpenShut
import Derived.ShutString
import Derived.ChangeOld
import Derived.Below
set_option linter.unusedVariables false
set_option linter.unusedSimpArgs false
namespace Go.Proofs.YtclediplagkblaaGreat
open Go.ChangeShapes Go.WideShapes Go.ChangeAt Go.RowKit
open Go.Hb
theorem boxClose_o5 : Opens Tryz.prog 5 1 isU8 := Opens.u8 (by kernel_rfl)
theorem boxClose_o9 : Opens Tryz.prog 9 1 (fun _ tvs => ∃ s, tvs = [.str s] ∧ s.length ≤ maxLen) := Opens.str (by kernel_rfl)
theorem boxClose_o27 : Opens Tryz.prog 27 1 (SliceOf 1 isU8) := Opens.slice (e := 5) (by kernel_rfl) (by kernel_rfl) (by decide) boxClose_o5
theorem boxClose_o65 : Opens Tryz.prog 65 3 smPsi := Opens.struct (fs := [(0, 27), (1, 5), (2, 27)]) (by kernel_rfl) (by kernel_rfl) (.cons (by kernel_rfl) boxClose_o27 (.cons (by kernel_rfl) boxClose_o5 (.cons (by kernel_rfl) boxClose_o27 (.nil _))))
theorem boxClose_o62 : Opens Tryz.prog 62 1 (SliceOf 3 smPsi) := Opens.slice (e := 65) (by kernel_rfl) (by kernel_rfl) (by decide) boxClose_o65
set_option maxRecDepth 100000 in
theorem boxClose_lifted (os : Os) (started : os.Started) (H : Type) (enc : TypeId × Value → H) :
    ReturnsInHanded {} Tryz.checked os 4 .any (Rows.boxCloseSpec.pre6 enc Tryz.prog Tryz.f4 Rows.boxCloseRow.domain false) (Rows.boxCloseSpec.post enc Tryz.prog Tryz.f4 false true false false) := by
  refine returnsInHanded_of_change (C := Tryz.checked) z_own started (by kernel_rfl) Tryz.func4
    (ChangeSpec.witness6 (enc := enc) (C := Tryz.checked) false ⟨#[], #[.slice none 0 0, .string ⟨#[]⟩], []⟩ 8 (by kernel_rfl) (by kernel_rfl) (by kernel_rfl) (by kernel_rfl)) ?_
  intro W base args ds gs before hval0 hW hcnd _
  have hval : ∀ (j : Nat) t v, Tryz.f4.params[j]? = some t → args[j]? = some v → Value.okWide Tryz.prog W .any base t v := hval0
  have hW' := hW
  obtain ⟨p, q, hA0, hV, rfl, hfz, hnd⟩ := hW
  have hA : DataW.TrodAll enc Tryz.prog W 0 (fun _ => true) true Tryz.f4.params.toList args.toList ds p := hA0
  have hpar : Tryz.f4.params = #[62, 9] := by kernel_rfl
  rw [hpar] at hA hval
  obtain ⟨v0, vs0, d0, ds0, p0, q0, hargs, rfl, rfl, h0, r0⟩ := trodAll_cons hA
  obtain ⟨v1, vs1, d1, ds1, p1, q1, rfl, rfl, rfl, h1, r1⟩ := trodAll_cons r0
  obtain ⟨rfl, rfl, rfl⟩ := trodAll_nil r1
  obtain rfl : args = #[v0, v1] := by cases args; simp_all
  obtain ⟨rfl, rfl⟩ := trodVars_none hV
  obtain ⟨a0, len0, cap0, rfl⟩ := okWide_slice (e := 65) (by kernel_rfl) (hval 0 62 v0 rfl rfl)
  have k0 := h0
  have lt0 : ∀ x ∈ p0, x.block < W.heap.size := by obtain ⟨m, hm⟩ := k0; exact DataW.trod_lt m _ _ _ hm
  obtain ⟨s1, rfl⟩ := okWide_string (by kernel_rfl) (hval 1 9 v1 rfl rfl)
  have k1 := h1
  have lt1 : ∀ x ∈ p1, x.block < W.heap.size := by obtain ⟨m, hm⟩ := k1; exact DataW.trod_lt m _ _ _ hm
  obtain ⟨f0, h0⟩ := h0
  obtain ⟨t0, e0, _, w0⟩ := boxClose_o62.go h0
  obtain ⟨A, cp, l, rfl, hR, hP⟩ := sms_of w0
  obtain ⟨f1, h1⟩ := h1
  obtain ⟨t1, e1, _, s, rfl, _⟩ := boxClose_o9.go h1
  clear hA0 hval0
  refine (Tr.below (Go.Hb.Wk12.boxClose_c A cp l s) W ⟨hR, hP⟩ (vs := #[.slice a0 len0 cap0, .string s1]) ?_).mono fun e W' ⟨he, bel⟩ => ?_
  · simp [TV.vs, TV.v, Value.cells] at e0 e1 ⊢
    exact ⟨e0, e1⟩
  subst he
  exact ⟨_, rfl, _, _, _, [], _, [], hW', trodAll_mk1 (shut_bool Tryz.underlying4 _), (trodAll_cons_mk (Below.trod z_laidOut (by kernel_rfl) (of_decide_eq_true (by kernel_rfl)) k0 bel lt0) (trodAll_cons_mk (Below.trod z_laidOut (by kernel_rfl) (of_decide_eq_true (by kernel_rfl)) k1 bel lt1) trodAll_mk0)), rfl, bel.frame _, fun h => by cases h⟩
end Go.Proofs.YtclediplagkblaaGreat
