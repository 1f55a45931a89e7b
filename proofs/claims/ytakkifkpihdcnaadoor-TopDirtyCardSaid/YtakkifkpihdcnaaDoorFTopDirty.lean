/- The given statement TopDirtySaid, for every input: the law returns true and leaves its arguments as they were. Conditions: none. -/
import Derived.Test.YtakkifkpihdcnaaDoorLTopDirty
import Derived.Test.YtakkifkpihdcnaaDoorBase
import Derived.Test.YtakkifkpihdcnaaDoorTie
import Derived.Test.YtakkifkpihdcnaaDoorCards
import Derived.LaidMore
import Derived.Lay
import Derived.SevenTiedAt
import Derived.Stop.Joined
set_option linter.unusedVariables false
set_option maxRecDepth 100000
namespace Go.Proofs.YtakkifkpihdcnaaDoor
open Go.ChangeShapes Go.WideShapes Go.ChangeAt Go.RowKit Go.Vc
theorem topDirty_contract {H : Type} (enc : TypeId × Value → H) (law : Con Tryd.prog 4 (lawCt topDirty_tys))
    (W : World) (args : Array Value) (ds gs : List (DataW H)) (before : List MemPlace) (hval : ∀ (j : Nat) t v, Tryd.f4.params[j]? = some t → args[j]? = some v → Value.okWide Tryd.prog W .any 0 t v)
    (hW : DataW.Whole enc Tryd.prog Tryd.f4.params.toList Rows.topDirtySpec.vars false W args.toList ds gs before)
    (hz : (DataW.weightsEach Tryd.prog (Tryd.f4.params.toList ++ Rows.topDirtySpec.plain.varTypes Tryd.prog) (ds ++ gs)).all (· ≤ reachBytes) = true) :
    Calls Tryd.prog 4 args W fun e W' => ∃ v, e = .returned v ∧ Rows.topDirtySpec.post enc Tryd.prog Tryd.f4 false true false false W args v W' :=
  law_contract (us := topDirty_tys) (n := 8) (tb := 4) Tryd.params4 (bulk_law H) laid_out (par_ok (by kernel_rfl)) rfl (fun ds h => match ds, h with | [d0, d1], _ => rfl) (by kernel_rfl) (by kernel_rfl) (by kernel_rfl) (fun x h1 _ => law_use law x h1) hval hW hz
theorem topDirty_said (law : Con Tryd.prog 4 (lawCt topDirty_tys)) : Rows.TopDirtySaid :=
  OpenClaim.holds_of_wide 4 Tryd.f4 rfl rfl rfl rfl rfl rfl rfl ⟨rfl, rfl, rfl, rfl, rfl⟩ rfl rfl rfl rfl rfl (by kernel_rfl) Tryd.func4 (by kernel_rfl)
    (of_decide_eq_true (by kernel_rfl)) (by unfold Func.isWrapper; first | (rw [if_pos (by decide +kernel)]; kernel_rfl) | (rw [if_neg (by decide +kernel)]; exact ⟨rfl, rfl⟩))
    (fun os started H enc _ => returnsInHanded_of_change_and (C := Tryd.checked) (X := fun w _ => laidMetH Tryd.prog Rows.topDirtyRow.laid w) (fun _ _ _ hh h => h.of_heap hh) own_knob started (by kernel_rfl) Tryd.func4
      (ChangeSpec.witness_shaped (enc := enc) (C := Tryd.checked) (os := os) (X := fun w _ => laidMetH Tryd.prog Rows.topDirtyRow.laid w) false (World.laidAll Tryd.prog os Rows.topDirtyRow.laid) #[.slice none 0 0, .agg #[.int .i64 0, .int .i64 0, .slice none 0 0]] 8 (World.laidAll_os _ _ _)
        (World.shaped_of_ZipB (by kernel_rfl) (by kernel_rfl)) (by kernel_rfl) (by kernel_rfl) (by kernel_rfl)
        (by rw [MakeChecks.laidMetH_plain _ _ _ (by kernel_rfl)]; exact laidMet_laidAll _ (by kernel_rfl) (by kernel_rfl)))
      fun W base args ds gs before hval hW _ hz _ _ => topDirty_contract enc law W args ds gs before hval hW hz)
theorem topDirty_card (holds : Rows.TopDirtySaid) : Rows.TopDirtyCardSaid :=
  Claim7.holds_tied_plain_at .later [] Rows.topDirtyCard.laidKinds true Rows.topDirtyCard.stood.harness false holds (fun _ h => by cases h) (by kernel_rfl) (fun _ h => by cases h) topDirty_row_tie rfl ⟨rfl, rfl⟩ (by kernel_rfl) rfl
    (fun f fn hf hfn => by
      obtain rfl : f = 4 := Option.some.inj ((show Tryd.prog.funcNamed "fustian/fustiantop.TopDirty" = some 4 by kernel_rfl).symm.trans hf) |>.symm
      obtain rfl : fn = Tryd.f4 := (Option.some.inj (Tryd.func4.symm.trans hfn)).symm
      exact ⟨by kernel_rfl, fun j t ht => by
        rw [Tryd.params4] at ht
        have hm : t ∈ [22, 29] := by simpa using Array.mem_of_getElem? ht
        have hall : ([22, 29].all fun u => !Tryd.prog.wantsStandIn u) = true := by kernel_rfl
        exact (show Tryd.prog.wantsStandIn t = false by simpa using List.all_eq_true.1 hall t hm)⟩)
    (by kernel_rfl)
theorem topDirty_card_holds : Rows.TopDirtyCardSaid := topDirty_card (topDirty_said law_TopDirty_con)
end Go.Proofs.YtakkifkpihdcnaaDoor
