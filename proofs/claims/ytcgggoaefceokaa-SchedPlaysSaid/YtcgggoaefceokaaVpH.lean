/-
  Turns of tasks; steps of a patch.
-/
import Derived.Test.YtcgggoaefceokaaVpE
set_option linter.unusedVariables false
set_option linter.unusedSimpArgs false
namespace Go.Fu
open Go.Vc
noncomputable section
/-! turns -/
abbrev tJob : Ty := .st (.cons tI (.cons tI .nil))
abbrev tDone : Ty := .st (.cons tI (.cons tI (.cons tI (.cons .bool .nil))))
abbrev Done := Int × Int × Int × Bool
abbrev Queue := List (Int × Int)
/-- What is left to do, and the next task's number; what a job came to. -/
def schedStep (q : Queue) (nx : Int) (j : Int × Int) : Done × Queue × Int :=
  if j.1 = 1 then
    (if j.2 < 0 ∨ 600 < j.2 then ((2, 0, 0, false), q, nx)
     else ((0, nx, 0, decide (j.2 = 0)), (if 0 < j.2 then q ++ [(nx, j.2)] else q), nx + 1))
  else if j.1 = 2 then
    (if j.2 < 1 ∨ 50 < j.2 then ((2, 0, 0, false), q, nx)
     else match q with
      | [] => ((7, 0, 0, false), q, nx)
      | t :: r => ((0, t.1, min j.2 t.2, decide (t.2 - min j.2 t.2 = 0)), (if 0 < t.2 - min j.2 t.2 then r ++ [(t.1, t.2 - min j.2 t.2)] else r), nx))
  else ((3, 0, 0, false), q, nx)
def schedGo : Queue → Int → List (Int × Int) → List Done
  | _, _, [] => []
  | q, nx, j :: l => (schedStep q nx j).1 :: schedGo (schedStep q nx j).2.1 (schedStep q nx j).2.2 l
def schedPlay (l : List (Int × Int)) : List Done × Int := if 80 < l.length then ([], 1) else (schedGo [] 0 l, 0)
def sched_Play_ct : Ct := ⟨tys1 (.sl tJob), [.own tDone, .val tI], fun _ => True, fun x => schedPlay x⟩
def ref_SchedPlayed_ct : Ct := sched_Play_ct
/-! a patch -/
abbrev tStep : Ty := .st (.cons tI (.cons tI .nil))
def patchGo (out a news : List Bytes) : List (Int × Int) → List Bytes × Int
  | [] => if a = [] ∧ news = [] then (out, 0) else ([], 4)
  | s :: l =>
    if s.1 < 1 ∨ 3 < s.1 then ([], 3)
    else if s.2 < 1 ∨ 200 < s.2 then ([], 2)
    else if s.1 = 3 then (if (news.length : Int) < s.2 then ([], 5) else patchGo (out ++ news.take s.2.toNat) a (news.drop s.2.toNat) l)
    else if (a.length : Int) < s.2 then ([], 5)
    else patchGo (if s.1 = 2 then out else out ++ a.take s.2.toNat) (a.drop s.2.toNat) news l
def patchOf (a : List Bytes) (l : List (Int × Int)) (news : List Bytes) : List Bytes × Int :=
  if 200 < l.length ∨ 80 < a.length ∨ 80 < news.length then ([], 1) else patchGo [] a news l
def diff_Patch_ct : Ct := ⟨tys3 (.sl .str) (.sl tStep) (.sl .str), [.own .str, .val tI], fun _ => True, fun x => patchOf x.1 x.2.1 x.2.2⟩
def ref_DiffPatch_ct : Ct := diff_Patch_ct
theorem patchGo_len : ∀ (l : List (Int × Int)) (out a news : List Bytes), (patchGo out a news l).1.length ≤ out.length + a.length + news.length
  | [], out, a, news => by simp only [patchGo]; split <;> simp; omega
  | s :: l, out, a, news => by
    have g1 := patchGo_len l (out ++ news.take s.2.toNat) a (news.drop s.2.toNat)
    have g2 := patchGo_len l (if s.1 = 2 then out else out ++ a.take s.2.toNat) (a.drop s.2.toNat) news
    simp only [List.length_append, List.length_take, List.length_drop] at g1 g2
    simp only [patchGo]
    split
    · simp
    · split
      · simp
      · split
        · split
          · simp
          · omega
        · split
          · simp
          · have : (if s.1 = 2 then out else out ++ a.take s.2.toNat).length ≤ out.length + min s.2.toNat a.length := by
              split <;> (try simp only [List.length_append, List.length_take]) <;> omega
            omega
theorem patchOf_len (a : List Bytes) (l : List (Int × Int)) (news : List Bytes) : (patchOf a l news).1.length ≤ 160 := by
  unfold patchOf
  split
  · simp
  · have := patchGo_len l [] a news
    simp only [List.length_nil] at this
    omega
end
end Go.Fu
