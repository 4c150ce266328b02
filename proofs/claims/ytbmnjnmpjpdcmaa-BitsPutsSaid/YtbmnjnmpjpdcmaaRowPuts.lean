/- The row of the law BitsPuts, out of its walk. Conditions: none. -/
import Derived.Test.YtbmnjnmpjpdcmaaRows
import Derived.Test.YtbmnjnmpjpdcmaaRowPlace
import Derived.Test.YtbmnjnmpjpdcmaaLawPuts
import Derived.WalkKit
import Derived.ProofKit
import Derived.OpenShut
import Derived.ShutString
import Derived.ChangeOld
import Derived.Below
import Derived.SizedLaws
import Derived.Carry
namespace Go.Proofs.Ytbmnjnmpjpdcmaa.bitsPuts
open Go.ChangeShapes Go.WideShapes Go.ChangeAt Go.RowKit Go.Eg
theorem own : ownKnob Try.prog.godebug = none := by kernel_rfl
theorem laidOut : laidOutB Try.prog = true := by kernel_rfl
set_option maxRecDepth 100000 in
theorem lifted (os : Os) (started : os.Started) (H : Type) (enc : TypeId × Value → H) :
    ReturnsInHanded {} Try.checked os 4 .any (Rows.bitsPutsSpec.pre6 enc Try.prog Try.f4 Rows.bitsPutsRow.domain false) (Rows.bitsPutsSpec.post enc Try.prog Try.f4 false true false false) := by
  refine returnsInHanded_of_change_sized (C := Try.checked) own started (by kernel_rfl) Try.func4
    (ChangeSpec.witness6 (enc := enc) (C := Try.checked) false ⟨#[], #[.agg #[.int .u64 0, .int .u64 0, .int .u64 0, .int .u64 0, .int .u64 0, .int .u64 0, .int .u64 0, .int .u64 0], .agg #[.int .i64 0, .int .i64 0], .agg #[.int .i64 0, .int .i64 0], .int .u64 0, .int .u64 0], []⟩ 8 (by kernel_rfl) (by kernel_rfl) (by kernel_rfl) (by kernel_rfl)) ?_
  intro W base args ds gs before hval0 hW hcnd hsz0 _
  have hsz : (DataW.weightsEach Try.prog (Try.f4.params.toList ++ Rows.bitsPutsSpec.plain.varTypes Try.prog) (ds ++ gs)).all (· ≤ reachBytes) = true := hsz0
  have hval : ∀ (j : Nat) t v, Try.f4.params[j]? = some t → args[j]? = some v → Value.okWide Try.prog W .any base t v := hval0
  have hW' := hW
  obtain ⟨p, q, hA0, hV, rfl, hfz, hnd⟩ := hW
  have hA : DataW.TrodAll enc Try.prog W 0 (fun _ => true) true Try.f4.params.toList args.toList ds p := hA0
  rw [Try.params4] at hA hval hsz
  obtain ⟨v0, vs0, d0, ds0, p0, q0, hargs, rfl, rfl, h0, r0⟩ := trodAll_cons hA
  obtain ⟨v1, vs1, d1, ds1, p1, q1, rfl, rfl, rfl, h1, r1⟩ := trodAll_cons r0
  obtain ⟨v2, vs2, d2, ds2, p2, q2, rfl, rfl, rfl, h2, r2⟩ := trodAll_cons r1
  obtain ⟨v3, vs3, d3, ds3, p3, q3, rfl, rfl, rfl, h3, r3⟩ := trodAll_cons r2
  obtain ⟨v4, vs4, d4, ds4, p4, q4, rfl, rfl, rfl, h4, r4⟩ := trodAll_cons r3
  obtain ⟨rfl, rfl, rfl⟩ := trodAll_nil r4
  obtain rfl : args = #[v0, v1, v2, v3, v4] := by cases args; simp_all
  obtain ⟨rfl, rfl⟩ := trodVars_none hV
  obtain ⟨x0, rfl⟩ := arg_set (hval 0 _ v0 rfl rfl) h0 (fits_each hsz (j := 0) rfl rfl)
  obtain ⟨x1, rfl, b1, c1⟩ := arg_place (hval 1 _ v1 rfl rfl) h1 (fits_each hsz (j := 1) rfl rfl)
  obtain ⟨x2, rfl, b2, c2⟩ := arg_place (hval 2 _ v2 rfl rfl) h2 (fits_each hsz (j := 2) rfl rfl)
  obtain ⟨x3, rfl, b3⟩ := arg_word (hval 3 _ v3 rfl rfl) h3 (fits_each hsz (j := 3) rfl rfl)
  obtain ⟨x4, rfl, b4⟩ := arg_word (hval 4 _ v4 rfl rfl) h4 (fits_each hsz (j := 4) rfl rfl)
  have l0 := trod_low h0
  have l1 := trod_low h1
  have l2 := trod_low h2
  have l3 := trod_low h3
  have l4 := trod_low h4
  clear hA0 hval0 hsz0 hsz
  refine (lawPuts_calls x0 x1.1 x1.2 x2.1 x2.2 x3 x4 W  b1 c1 b2 c2 b3 b4).mono fun e W' ⟨he, bel⟩ => ?_
  subst he
  replace bel : Below W.heap.size W W' := bel
  exact ⟨_, rfl, _, _, _, [], _, [], hW', trodAll_mk1 (shut_bool Try.underlying4 _), (trodAll_cons_mk (Below.trod laidOut (by kernel_rfl) (of_decide_eq_true (by kernel_rfl)) h0 bel l0) (trodAll_cons_mk (Below.trod laidOut (by kernel_rfl) (of_decide_eq_true (by kernel_rfl)) h1 bel l1) (trodAll_cons_mk (Below.trod laidOut (by kernel_rfl) (of_decide_eq_true (by kernel_rfl)) h2 bel l2) (trodAll_cons_mk (Below.trod laidOut (by kernel_rfl) (of_decide_eq_true (by kernel_rfl)) h3 bel l3) (trodAll_cons_mk (Below.trod laidOut (by kernel_rfl) (of_decide_eq_true (by kernel_rfl)) h4 bel l4) trodAll_mk0))))), rfl, bel.frame _, fun h => by cases h⟩
theorem over : Rows.bitsPutsRow.holds Try.pinned (OpenSpec.ofChange Rows.bitsPutsSpec) :=
  OpenClaim.holds_of_wide 4 Try.f4 rfl rfl rfl rfl rfl rfl rfl ⟨rfl, rfl, rfl, rfl, rfl⟩ rfl rfl rfl rfl rfl (by kernel_rfl) Try.func4 (by kernel_rfl)
    (of_decide_eq_true (by kernel_rfl)) (by unfold Func.isWrapper; first | (rw [if_pos (by decide +kernel)]; kernel_rfl) | (rw [if_neg (by decide +kernel)]; exact ⟨rfl, rfl⟩))
    (fun os started H enc _ => lifted os started H enc)
theorem proved : Rows.BitsPutsSaid := over
end Go.Proofs.Ytbmnjnmpjpdcmaa.bitsPuts
namespace Go.Proofs.Ytbmnjnmpjpdcmaa
/-- The row, for the claim. -/
theorem bitsPuts_holds : Rows.BitsPutsSaid := bitsPuts.proved
end Go.Proofs.Ytbmnjnmpjpdcmaa
