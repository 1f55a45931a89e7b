/- The given statement PolyLinesesSaid, for every input: the law returns true and leaves its arguments as they were. Conditions: none. -/
import Derived.Test.YtakkifkpihdcnaaDoorLPolyLineses
import Derived.Test.YtakkifkpihdcnaaDoorBase
import Derived.Test.YtakkifkpihdcnaaDoorTie
import Derived.Test.YtakkifkpihdcnaaDoorCards
import Derived.LaidMore
import Derived.Lay
import Derived.SevenTiedAt
import Derived.Stop.Joined
set_option linter.unusedVariables false
set_option maxRecDepth 100000
namespace Go.Proofs.YtakkifkpihdcnaaDoor
open Go.ChangeShapes Go.WideShapes Go.ChangeAt Go.RowKit Go.Vc
theorem polyLineses_contract {H : Type} (enc : TypeId × Value → H) (law : Con Tryd.prog 3 (lawCt polyLineses_tys))
    (W : World) (args : Array Value) (ds gs : List (DataW H)) (before : List MemPlace) (hval : ∀ (j : Nat) t v, Tryd.f3.params[j]? = some t → args[j]? = some v → Value.okWide Tryd.prog W .any 0 t v)
    (hW : DataW.Whole enc Tryd.prog Tryd.f3.params.toList Rows.polyLinesesSpec.vars false W args.toList ds gs before)
    (hz : (DataW.weightsEach Tryd.prog (Tryd.f3.params.toList ++ Rows.polyLinesesSpec.plain.varTypes Tryd.prog) (ds ++ gs)).all (· ≤ reachBytes) = true) :
    Calls Tryd.prog 3 args W fun e W' => ∃ v, e = .returned v ∧ Rows.polyLinesesSpec.post enc Tryd.prog Tryd.f3 false true false false W args v W' :=
  law_contract (us := polyLineses_tys) (n := 8) (tb := 4) Tryd.params3 (bulk_law H) laid_out (par_ok (by kernel_rfl)) rfl (fun ds h => match ds, h with | [d0], _ => rfl) (by kernel_rfl) (by kernel_rfl) (by kernel_rfl) (fun x h1 _ => law_use law x h1) hval hW hz
theorem polyLineses_said (law : Con Tryd.prog 3 (lawCt polyLineses_tys)) : Rows.PolyLinesesSaid :=
  OpenClaim.holds_of_wide 3 Tryd.f3 rfl rfl rfl rfl rfl rfl rfl ⟨rfl, rfl, rfl, rfl, rfl⟩ rfl rfl rfl rfl rfl (by kernel_rfl) Tryd.func3 (by kernel_rfl)
    (of_decide_eq_true (by kernel_rfl)) (by unfold Func.isWrapper; first | (rw [if_pos (by decide +kernel)]; kernel_rfl) | (rw [if_neg (by decide +kernel)]; exact ⟨rfl, rfl⟩))
    (fun os started H enc _ => returnsInHanded_of_change_and (C := Tryd.checked) (X := fun w _ => laidMetH Tryd.prog Rows.polyLinesesRow.laid w) (fun _ _ _ hh h => h.of_heap hh) own_knob started (by kernel_rfl) Tryd.func3
      (ChangeSpec.witness_shaped (enc := enc) (C := Tryd.checked) (os := os) (X := fun w _ => laidMetH Tryd.prog Rows.polyLinesesRow.laid w) false (World.laidAll Tryd.prog os Rows.polyLinesesRow.laid) #[.string ⟨#[]⟩] 8 (World.laidAll_os _ _ _)
        (World.shaped_of_ZipB (by kernel_rfl) (by kernel_rfl)) (by kernel_rfl) (by kernel_rfl) (by kernel_rfl)
        (by rw [MakeChecks.laidMetH_plain _ _ _ (by kernel_rfl)]; exact laidMet_laidAll _ (by kernel_rfl) (by kernel_rfl)))
      fun W base args ds gs before hval hW _ hz _ _ => polyLineses_contract enc law W args ds gs before hval hW hz)
theorem polyLineses_card (holds : Rows.PolyLinesesSaid) : Rows.PolyLinesesCardSaid :=
  Claim7.holds_tied_plain_at .later [] Rows.polyLinesesCard.laidKinds true Rows.polyLinesesCard.stood.harness false holds (fun _ h => by cases h) (by kernel_rfl) (fun _ h => by cases h) polyLineses_row_tie rfl ⟨rfl, rfl⟩ (by kernel_rfl) rfl
    (fun f fn hf hfn => by
      obtain rfl : f = 3 := Option.some.inj ((show Tryd.prog.funcNamed "fustian/fustianlaw.PolyLineses" = some 3 by kernel_rfl).symm.trans hf) |>.symm
      obtain rfl : fn = Tryd.f3 := (Option.some.inj (Tryd.func3.symm.trans hfn)).symm
      exact ⟨by kernel_rfl, fun j t ht => by
        rw [Tryd.params3] at ht
        have hm : t ∈ [9] := by simpa using Array.mem_of_getElem? ht
        have hall : ([9].all fun u => !Tryd.prog.wantsStandIn u) = true := by kernel_rfl
        exact (show Tryd.prog.wantsStandIn t = false by simpa using List.all_eq_true.1 hall t hm)⟩)
    (by kernel_rfl)
theorem polyLineses_card_holds : Rows.PolyLinesesCardSaid := polyLineses_card (polyLineses_said law_PolyLineses_con)
end Go.Proofs.YtakkifkpihdcnaaDoor
