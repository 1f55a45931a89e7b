/- The given statement FindManysSaid, for every input: the law returns true and leaves its arguments as they were. Conditions: none. -/
import Derived.Test.YtfelfimcnidplaaLFindManys
import Derived.Test.YtfelfimcnidplaaBase
set_option linter.unusedVariables false
set_option maxRecDepth 100000
namespace Go.Proofs.Ytfelfimcnidplaa
open Go.ChangeShapes Go.WideShapes Go.ChangeAt Go.RowKit Go.Vc
theorem findManys_contract {H : Type} (enc : TypeId × Value → H) (law : Con Try.prog 3 (lawCt findManys_tys))
    (W : World) (args : Array Value) (ds gs : List (DataW H)) (before : List MemPlace) (hval : ∀ (j : Nat) t v, Try.f3.params[j]? = some t → args[j]? = some v → Value.okWide Try.prog W .any 0 t v)
    (hW : DataW.Whole enc Try.prog Try.f3.params.toList Rows.findManysSpec.vars false W args.toList ds gs before)
    (hz : (DataW.weightsEach Try.prog (Try.f3.params.toList ++ Rows.findManysSpec.plain.varTypes Try.prog) (ds ++ gs)).all (· ≤ reachBytes) = true) :
    Calls Try.prog 3 args W fun e W' => ∃ v, e = .returned v ∧ Rows.findManysSpec.post enc Try.prog Try.f3 false true false false W args v W' :=
  law_contract (us := findManys_tys) (n := 8) (tb := 4) Try.params3 (bulk_law H) laid_out (par_ok (by kernel_rfl)) rfl (fun ds h => match ds, h with | [d0, d1], _ => rfl) (by kernel_rfl) (by kernel_rfl) (by kernel_rfl) (fun x h1 _ => law_use law x h1) hval hW hz
theorem findManys_said (law : Con Try.prog 3 (lawCt findManys_tys)) : Rows.FindManysSaid :=
  OpenClaim.holds_of_wide 3 Try.f3 rfl rfl rfl rfl rfl rfl rfl ⟨rfl, rfl, rfl, rfl, rfl⟩ rfl rfl rfl rfl rfl (by kernel_rfl) Try.func3 (by kernel_rfl)
    (of_decide_eq_true (by kernel_rfl)) (by unfold Func.isWrapper; first | (rw [if_pos (by decide +kernel)]; kernel_rfl) | (rw [if_neg (by decide +kernel)]; exact ⟨rfl, rfl⟩))
    (fun os started H enc _ => returnsInHanded_of_change_sized (C := Try.checked) own_knob started (by kernel_rfl) Try.func3
      (ChangeSpec.witness6 (enc := enc) (C := Try.checked) false ⟨#[], #[.string ⟨#[]⟩, .slice none 0 0], []⟩ 8 (by kernel_rfl) (by kernel_rfl) (by kernel_rfl) (by kernel_rfl))
      fun W base args ds gs before hval hW _ hz _ => findManys_contract enc law W args ds gs before hval hW hz)
theorem findManys_holds : Rows.FindManysSaid := findManys_said law_FindManys_con
end Go.Proofs.Ytfelfimcnidplaa
