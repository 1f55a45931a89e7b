/-
  The order of a text's ends: contracts of suffix.sorted, of its comparison, and of what these call.
-/
import Derived.Test.YtfelfimcnidplaaVpB
import Derived.Test.YtfelfimcnidplaaVpY
import Derived.Test.YtfelfimcnidplaaVyO
set_option linter.unusedVariables false
set_option linter.unusedSimpArgs false
namespace Go.Fu
open Go.Vc
noncomputable section
def orL : List Int → Int
  | [] => 0
  | a :: r => if a ≠ 0 then a else orL r
def cmp_Or_int__ct : Ct := ⟨tys1 (.sl tI), [.val tI], fun l => fitL l, fun l => orL l⟩
def cmp_isNaN_int__ct : Ct := ⟨tys1 tI, [.val .bool], fun _ => True, fun _ => false⟩
def cmp_Compare_int__ct : Ct := ⟨tys2 tI tI, [.val tI], fun _ => True, fun x => cmpI x.1 x.2⟩
theorem orL_two (x y : Int) : orL [x, y] = orI x y := by
  simp only [orL, orI]
  split
  · rfl
  · split
    · rfl
    · omega
def secN (n w : Int) (rk : List Int) (i : Int) : Int := if i + w < n then gt rk (i + w) else -1
abbrev fnSec : Nat := 34
abbrev fnBy : Nat := 35
abbrev ktBy : Tys := .cons (.sl tI) (.cons tI (.cons tI (.cons (.sl tI) .nil)))
def byDec : List TV → Option (Ts ktBy)
  | [.rop [.ros (.int .i64) r], .rop [.fn g [.rop [.int .i64 w], .rop [.int .i64 n], .rop [.ros (.int .i64) r2]]]] => (match Nat.beq g fnSec with | true => some (r, w, n, r2) | false => none)
  | _ => none
abbrev KBy := List Int × Int × Int × List Int
abbrev byPre (k : KBy) (a b : Int) : Prop := k.1 = k.2.2.2 ∧ (k.1.length : Int) = k.2.2.1 ∧ k.2.2.1 ≤ 1000 ∧ 1 ≤ k.2.1 ∧ k.2.1 ≤ 1000000 ∧ 0 ≤ a ∧ a < k.2.2.1 ∧ 0 ≤ b ∧ b < k.2.2.1
def byFn (k : KBy) (a b : Int) : Int := orL [cmpI (gt k.1 a) (gt k.1 b), cmpI (secN k.2.2.1 k.2.1 k.2.2.2 a) (secN k.2.2.1 k.2.1 k.2.2.2 b)]
def suffix_by_cq : Cq := ⟨fnBy, ktBy, fun (k : KBy) => [.rop [.ros (.int .i64) k.1], .rop [.fn fnSec [.rop [.int .i64 k.2.1], .rop [.int .i64 k.2.2.1], .rop [.ros (.int .i64) k.2.2.2]]]], byDec, byPre, byFn⟩
def suffix_sorted_2_cr : Cr := suffix_by_cq.cr
theorem suffix_sorted_2_cr_dec : ∀ xs k, suffix_sorted_2_cr.dec xs = some k → xs = suffix_sorted_2_cr.caps k := by
  intro xs k h
  change byDec xs = some k at h
  unfold byDec at h
  split at h
  · rename_i r g w n r2
    split at h
    · rename_i hb
      cases h
      rw [Nat.eq_of_beq_eq_true hb]
      rfl
    · cases h
  · cases h
def suffix_sorted_ct : Ct := ⟨tys1 .str, [.own tI], fun s => s.length ≤ 600, fun s => saOf s⟩
end
end Go.Fu
