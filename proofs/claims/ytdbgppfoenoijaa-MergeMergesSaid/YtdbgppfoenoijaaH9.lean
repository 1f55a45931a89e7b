/- What a way touches: a contract of plain values. Conditions: none. -/
import Derived.Test.YtdbgppfoenoijaaH8
set_option linter.unusedVariables false
set_option linter.unusedSimpArgs false
set_option maxRecDepth 100000
namespace Go.Proofs.Ytdbgppfoenoijaa.R
open Go.Vc Go.Fu
open H (strs strs_len strs_app encS encS_at strs_at strs_at1 strs_eq Rl deref_strs)
theorem touched_rc (hD : Con Try.prog f_ref_DiffSteps ref_DiffSteps_ct) (base other : Lines) (hf : linesFault [base, other] = 0) :
    RC Try.prog f_ref_touched [Rl base, Rl other] (.tup [.ros (base.length + 1) (bl (touchOf base other).gap (base.length + 1)), .ros base.length (bl (touchOf base other).gone base.length), .ros (base.length + 1) ((pl (touchOf base other).put (base.length + 1)).map Rl)]) := by
  obtain ⟨hb, ho⟩ := fault_two hf
  refine RC.ofT 4 (touched_walk hD base other hf hb ho) ?_
  rintro r m' S' ⟨p1, v1, p2, v2, p3, v3, cs, mp, X, rfl, hr, rfl⟩ hS
  have hc := hr.clen
  rw [pl_len] at hc
  have z : ∀ (cs : List AVal) (n : Nat), cs.length = n → subL cs 0 (n * 1) = cs := fun cs n h => by unfold subL; rw [List.drop_zero, List.take_of_length_le (by omega)]
  show AVal.tup [derefT S' 3 _, derefT S' 3 _, derefT S' 3 _] = _
  rw [derefT_row hS 2, derefT_row (hS.eq (m' := pt p2 (.row v2 1 (bl (touchOf base other).gone base.length)) + (pt p1 (.row v1 1 (bl (touchOf base other).gap (base.length + 1))) + (pt p3 (.row v3 1 cs) + (mp + X)))) (by ac_rfl)) 2,
    derefT_row (hS.eq (m' := pt p3 (.row v3 1 cs) + (pt p1 (.row v1 1 (bl (touchOf base other).gap (base.length + 1))) + (pt p2 (.row v2 1 (bl (touchOf base other).gone base.length)) + (mp + X)))) (by ac_rfl)) 2, z _ _ (bl_len _ _), z _ _ (bl_len _ _), z _ _ hc, bl_deref, bl_deref,
    hr.deref (mf := pt p1 (.row v1 1 (bl (touchOf base other).gap (base.length + 1))) + (pt p2 (.row v2 1 (bl (touchOf base other).gone base.length)) + (pt p3 (.row v3 1 cs) + X))) (hS.eq (by ac_rfl))]
theorem bools_flat (l : List Bool) : l.flatMap (fun b => [AVal.bool b]) = l.map .bool := by
  induction l with
  | nil => rfl
  | cons x l ih => rw [List.flatMap_cons, ih]; rfl
theorem lists_flat (l : List Lines) : l.flatMap (fun (b : Lines) => [AVal.ros b.length (b.flatMap fun s => [AVal.str s])]) = l.map Rl := by
  induction l with
  | nil => rfl
  | cons x l ih => rw [List.flatMap_cons, ih, H.strs_flat]; rfl
theorem touched_con (hD : Con Try.prog f_ref_DiffSteps ref_DiffSteps_ct) : Con Try.prog f_ref_touched ref_touched_ct := by
  refine ⟨ref_touched_ok.able rfl, fun (x : Lines × Lines) hp => ?_⟩
  obtain ⟨base, other⟩ := x
  show ACalls Try.prog f_ref_touched [encA (.sl .str) base, encA (.sl .str) other] [] (resR [.val (.sl .bool), .val (.sl .bool), .val (.sl (.sl .str))] (touchL base other))
  rw [strs_eq, strs_eq]
  refine (touched_rc hD base other hp).use ?_
  have e1 : encA (.sl .bool) ((List.range (base.length + 1)).map (touchOf base other).gap) = .ros (base.length + 1) (bl (touchOf base other).gap (base.length + 1)) := by
    show AVal.ros ((List.range (base.length + 1)).map (touchOf base other).gap).length (((List.range (base.length + 1)).map (touchOf base other).gap).flatMap (fun b => [AVal.bool b])) = _
    rw [bools_flat, List.map_map, List.length_map, List.length_range]; rfl
  have e2 : encA (.sl .bool) ((List.range base.length).map (touchOf base other).gone) = .ros base.length (bl (touchOf base other).gone base.length) := by
    show AVal.ros ((List.range base.length).map (touchOf base other).gone).length (((List.range base.length).map (touchOf base other).gone).flatMap (fun b => [AVal.bool b])) = _
    rw [bools_flat, List.map_map, List.length_map, List.length_range]; rfl
  have e3 : encA (.sl (.sl .str)) (pl (touchOf base other).put (base.length + 1)) = .ros (base.length + 1) ((pl (touchOf base other).put (base.length + 1)).map Rl) := by
    show AVal.ros (pl (touchOf base other).put (base.length + 1)).length ((pl (touchOf base other).put (base.length + 1)).flatMap (fun (b : Lines) => [AVal.ros b.length (b.flatMap fun s => [AVal.str s])])) = _
    rw [lists_flat, pl_len]
  rw [← e1, ← e2, ← e3]
  exact ⟨[_, _, _], ⟨_, rfl, ⟨_, rfl, ⟨_, rfl, ⟨rfl, rfl⟩⟩⟩⟩, rfl⟩
end Go.Proofs.Ytdbgppfoenoijaa.R
