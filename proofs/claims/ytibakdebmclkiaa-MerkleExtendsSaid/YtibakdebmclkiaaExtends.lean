/- The statement MerkleExtends: for any claim with a proof of up to 100 numbers, the program's answer is the reference's. -/
import Derived.Test.YtibakdebmclkiaaA9
import Derived.Test.YtibakdebmclkiaaB1
namespace Go.Proofs.Ytibakdebmclkiaa.merkleExtends
open Go.ChangeShapes Go.WideShapes Go.ChangeAt Go.RowKit
open Go.ChangeMaps (open_string shut_string)
set_option linter.unusedVariables false
theorem own : ownKnob Try.prog.godebug = none := by kernel_rfl
theorem laidOut : laidOutB Try.prog = true := by kernel_rfl
set_option maxRecDepth 100000 in
theorem lifted (os : Os) (started : os.Started) (H : Type) (enc : TypeId × Value → H) :
    ReturnsInHanded {} Try.checked os 6 .any (Rows.merkleExtendsSpec.pre6 enc Try.prog Try.f6 Rows.merkleExtendsRow.domain false) (Rows.merkleExtendsSpec.post enc Try.prog Try.f6 false true false false) := by
  refine returnsInHanded_of_change_sized (C := Try.checked) own started (by kernel_rfl) Try.func6
    (ChangeSpec.witness6 (enc := enc) (C := Try.checked) false ⟨#[], #[.agg #[.int .u64 0, .int .u64 0, .int .i64 0, .int .i64 0, .slice none 0 0]], []⟩ 8 (by kernel_rfl) (by kernel_rfl) (by kernel_rfl) (by kernel_rfl)) ?_
  intro W base args ds gs before hval0 hW hcnd hsz0 _
  have hsz : (DataW.weightsEach Try.prog (Try.f6.params.toList ++ Rows.merkleExtendsSpec.plain.varTypes Try.prog) (ds ++ gs)).all (· ≤ reachBytes) = true := hsz0
  have hval : ∀ (j : Nat) t v, Try.f6.params[j]? = some t → args[j]? = some v → Value.okWide Try.prog W .any base t v := hval0
  have hW' := hW
  obtain ⟨p, q, hA0, hV, rfl, hfz, hnd⟩ := hW
  have hA : DataW.TrodAll enc Try.prog W 0 (fun _ => true) true Try.f6.params.toList args.toList ds p := hA0
  rw [Try.params6] at hA hval hsz
  obtain ⟨v0, vs0, d0, ds0, p0, q0, hargs, rfl, rfl, h0, r0⟩ := trodAll_cons hA
  obtain ⟨rfl, rfl, rfl⟩ := trodAll_nil r0
  obtain rfl : args = #[v0] := by cases args; simp_all
  obtain ⟨rfl, rfl⟩ := trodVars_none hV
  have k0 := h0
  have lt0 : ∀ x ∈ p0, x.block < W.heap.size := by obtain ⟨m, hm⟩ := k0; exact DataW.trod_lt m _ _ _ hm
  obtain ⟨v00, v01, v02, v03, v04, y0, y1, y2, y3, y4, m, rfl, rfl, rfl, t0, t1, t2, t3, t4⟩ := open_agg5 Try.underlying33 (by kernel_rfl) (by kernel_rfl) (hval 0 33 v0 rfl rfl) h0
  obtain ⟨z0, hz0, _, w0⟩ := DataW.trod_int Try.underlying24 t0
  obtain ⟨z1, hz1, _, w1⟩ := DataW.trod_int Try.underlying24 t1
  obtain ⟨z2, hz2, _, w2⟩ := DataW.trod_int Try.underlying3 t2
  obtain ⟨z3, hz3, _, w3⟩ := DataW.trod_int Try.underlying3 t3
  obtain ⟨a, len, cap, xs, rfl, hr⟩ := row_of Try.underlying22 Try.underlying24 (by kernel_rfl) t4
  cases hz0; cases hz1; cases hz2; cases hz3
  obtain rfl := hr.len_eq
  clear hA0 hval0 hsz0 hsz
  refine (extends_law z0 z1 z2 z3 a cap xs W (wf_i64 w3).2 hr.ints hr.lecap).mono fun e W' ⟨he, bel⟩ => ?_
  subst he
  exact ⟨_, rfl, _, _, _, [], _, [], hW', trodAll_mk1 (shut_bool Try.underlying4 _), (trodAll_cons_mk (Below.trod laidOut (by kernel_rfl) (of_decide_eq_true (by kernel_rfl)) k0 bel lt0) trodAll_mk0), rfl, bel.frame _, fun h => by cases h⟩
theorem over : Rows.merkleExtendsRow.holds Try.pinned (OpenSpec.ofChange Rows.merkleExtendsSpec) :=
  OpenClaim.holds_of_wide 6 Try.f6 rfl rfl rfl rfl rfl rfl rfl ⟨rfl, rfl, rfl, rfl, rfl⟩ rfl rfl rfl rfl rfl (by kernel_rfl) Try.func6 (by kernel_rfl)
    (of_decide_eq_true (by kernel_rfl)) (by unfold Func.isWrapper; first | (rw [if_pos (by decide +kernel)]; kernel_rfl) | (rw [if_neg (by decide +kernel)]; exact ⟨rfl, rfl⟩))
    (fun os started H enc _ => lifted os started H enc)
theorem proved : Rows.MerkleExtendsSaid := over
#print axioms proved
end Go.Proofs.Ytibakdebmclkiaa.merkleExtends
namespace Go.Proofs.Ytibakdebmclkiaa
/-- The row, under a short name, for the claim. -/
theorem merkleExtends_holds : Rows.MerkleExtendsSaid := merkleExtends.proved
end Go.Proofs.Ytibakdebmclkiaa
