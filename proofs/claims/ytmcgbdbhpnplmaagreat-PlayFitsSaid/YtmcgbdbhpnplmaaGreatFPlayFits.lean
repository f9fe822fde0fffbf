/- The statement PlayFits: the call, whatever the arguments, hands back true, and turns nothing that was there. -/
import Derived.Test.YtmcgbdbhpnplmaaGreatRows
import Derived.Test.YtmcgbdbhpnplmaaGreatPlayFits
import Derived.Test.YtmcgbdbhpnplmaaGreatMO
namespace Go.Proofs.YtmcgbdbhpnplmaaGreat.playFits
open Go Go.RowKit Go.ChangeShapes Go.WideShapes Go.ChangeAt Go.Proofs.YtmcgbdbhpnplmaaGreat
theorem own : ownKnob Tryz.prog.godebug = none := by kernel_rfl
theorem laidOut : laidOutB Tryz.prog = true := by kernel_rfl
set_option maxRecDepth 100000 in
theorem lifted (os : Os) (started : os.Started) (H : Type) (enc : TypeId × Value → H) :
  ReturnsInHanded {} Tryz.checked os 9 .any (Rows.playFitsSpec.pre6 enc Tryz.prog Tryz.f9 Rows.playFitsRow.domain false) (Rows.playFitsSpec.post enc Tryz.prog Tryz.f9 false true false false) := by
 refine returnsInHanded_of_change_sized (C := Tryz.checked) own started (by kernel_rfl) Tryz.func9
  (ChangeSpec.witness6 (enc := enc) (C := Tryz.checked) false ⟨#[], #[.slice none 0 0, .agg #[.int .i64 0, .int .i64 0, .int .i64 0, .int .i64 0, .int .i64 0, .int .i64 0, .slice none 0 0]], []⟩ 8 (by kernel_rfl) (by kernel_rfl) (by kernel_rfl) (by kernel_rfl)) ?_
 intro W base args ds gs before hval0 hW _ hsz0 _
 have hval : ∀ (j : Nat) t v, Tryz.f9.params[j]? = some t → args[j]? = some v → Value.okWide Tryz.prog W .any base t v := hval0
 have hsz : (DataW.weightsEach Tryz.prog (Tryz.f9.params.toList ++ Rows.playFitsSpec.plain.varTypes Tryz.prog) (ds ++ gs)).all (· ≤ reachBytes) = true := hsz0
 have hW' := hW
 obtain ⟨p, q, hA0, hV, rfl, hfz, hnd⟩ := hW
 have hA : DataW.TrodAll enc Tryz.prog W 0 (fun _ => true) true Tryz.f9.params.toList args.toList ds p := hA0
 rw [Tryz.params9] at hA hval hsz
 obtain ⟨v0, vs0, d0, ds0, p0, q0, hargs, rfl, rfl, h0, r0⟩ := trodAll_cons hA
 obtain ⟨v1, vs1, d1, ds1, p1, q1, rfl, rfl, rfl, h1, r1⟩ := trodAll_cons r0
 obtain ⟨rfl, rfl, rfl⟩ := trodAll_nil r1
 obtain rfl : args = #[v0, v1] := by cases args; simp_all
 obtain ⟨rfl, rfl⟩ := trodVars_none hV
 have k0 := h0
 have lt0 : ∀ x ∈ p0, x.block < W.heap.size := by obtain ⟨m, hm⟩ := k0; exact DataW.trod_lt m _ _ _ hm
 have k1 := h1
 have lt1 : ∀ x ∈ p1, x.block < W.heap.size := by obtain ⟨m, hm⟩ := k1; exact DataW.trod_lt m _ _ _ hm
 obtain ⟨A0, n0, c0, rfl⟩ := okWide_slice Tryz.underlying22 (hval 0 22 v0 rfl rfl)
 obtain ⟨l0, b0, z0⟩ : ∃ l, Row eStp [] W W.heap.size (.slice A0 n0 c0) l ∧ ∀ y ∈ l, y.deed.data.length + 4096 ≤ blim := by
  obtain ⟨fuel, hf⟩ := h0
  obtain ⟨v, xs, hcs, hb, hz⟩ := in_steps hf (fits_of hsz 0 rfl rfl)
  refine ⟨xs, ?_, hz⟩
  simp [Value.cells] at hcs
  rw [hcs]
  exact hb
 obtain ⟨cs1, rfl, _⟩ := okWide_struct Tryz.underlying67 (hval 1 67 v1 rfl rfl)
 obtain ⟨l1, b1, z1⟩ : ∃ d, StpV W W.heap.size (.agg cs1) d ∧ d.deed.data.length + 4096 ≤ blim := by
  obtain ⟨fuel, hf⟩ := h1
  obtain ⟨u, d, hcs, hb, hz⟩ := in_step hf (fits_of hsz 1 rfl rfl)
  refine ⟨d, ⟨u, ?_, hb⟩, hz⟩
  cases cs1
  congr 1
  simpa [Value.cells] using hcs
 clear hA0 hval0
 refine (playFits_law W b0 b1).mono fun e W' ⟨he, bel⟩ => ?_
 subst he
 exact ⟨_, rfl, _, _, _, [], _, [], hW', trodAll_mk1 (shut_bool Tryz.underlying4 _), (trodAll_cons_mk (Below.trod laidOut (by kernel_rfl) (of_decide_eq_true (by kernel_rfl)) k0 bel lt0) (trodAll_cons_mk (Below.trod laidOut (by kernel_rfl) (of_decide_eq_true (by kernel_rfl)) k1 bel lt1) trodAll_mk0)), rfl, bel.frame _, fun h => by cases h⟩
set_option maxHeartbeats 20000000 in
theorem closed : joinedFacts Tryz.checked.prog 9 Tryz.f9 Rows.playFitsSpec Rows.playFitsRow = true := by
 unfold joinedFacts
 repeat' (with_reducible refine and_t ?_ ?_)
 all_goals (as_aux_lemma => kernel_rfl)
theorem over : Rows.playFitsRow.holds Tryz.pinned (OpenSpec.ofChange Rows.playFitsSpec) :=
 OpenClaim.holds_of_wide 9 Tryz.f9 rfl rfl rfl rfl rfl rfl rfl ⟨rfl, rfl, rfl, rfl, rfl⟩ rfl rfl rfl rfl rfl (by as_aux_lemma => kernel_rfl) Tryz.func9 closed
  (of_decide_eq_true (by as_aux_lemma => kernel_rfl)) (by unfold Func.isWrapper; first | (rw [if_pos (by decide +kernel)]; kernel_rfl) | (rw [if_neg (by decide +kernel)]; exact ⟨rfl, rfl⟩))
  (fun os started H enc _ => lifted os started H enc)
theorem proved : Rows.PlayFitsSaid := over
#print axioms proved
end Go.Proofs.YtmcgbdbhpnplmaaGreat.playFits
