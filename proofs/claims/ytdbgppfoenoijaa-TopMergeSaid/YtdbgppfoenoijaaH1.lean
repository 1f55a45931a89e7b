/- Hunks of the way between two lists of lines, walked. Conditions: none. -/
import Derived.Test.YtdbgppfoenoijaaGH
import Derived.Test.YtdbgppfoenoijaaVh5
import Derived.Test.YtdbgppfoenoijaaVpMN
set_option linter.unusedVariables false
set_option linter.unusedSimpArgs false
set_option maxRecDepth 100000
namespace Go.Proofs.Ytdbgppfoenoijaa.H
open Go.Vc Go.Fu
abbrev strs (l : Lines) : List AVal := l.map .str
def encH (h : Hunk) : List AVal := [.int .i64 h.1, .int .i64 h.2.1, .ros h.2.2.length (strs h.2.2)]
def encHs (l : List Hunk) : List AVal := l.flatMap encH
theorem encHs_len : ∀ l : List Hunk, (encHs l).length = l.length * 3
  | [] => rfl
  | h :: l => by
    have := encHs_len l
    unfold encHs at this ⊢
    rw [List.flatMap_cons, List.length_append, this, List.length_cons]; simp [encH]; omega
theorem encHs_at : ∀ {l : List Hunk} {j : Nat} {h : Hunk}, l[j]? = some h → (encHs l).drop (j * 3) = .int .i64 h.1 :: .int .i64 h.2.1 :: .ros h.2.2.length (strs h.2.2) :: encHs (l.drop (j + 1))
  | [], j, h, e => by simp at e
  | a :: l, 0, h, e => by simp at e; subst e; rfl
  | a :: l, j + 1, h, e => by
    have := encHs_at (l := l) (j := j) (h := h) (by simpa using e)
    unfold encHs at this ⊢
    rw [show (j + 1) * 3 = j * 3 + 3 by omega, List.flatMap_cons, show encH a = [.int .i64 a.1, .int .i64 a.2.1, .ros a.2.2.length (strs a.2.2)] from rfl, List.drop_append]
    simpa using this
theorem encHs_cons (a : Hunk) (l : List Hunk) : encHs (a :: l) = .int .i64 a.1 :: .int .i64 a.2.1 :: .ros a.2.2.length (strs a.2.2) :: encHs l := rfl
theorem encHs_drop (l : List Hunk) (j : Nat) : (encHs l).drop (j * 3) = encHs (l.drop j) := by
  induction l generalizing j with
  | nil => simp [encHs]
  | cons a l ih => cases j with
    | zero => simp
    | succ j =>
      rw [show (j + 1) * 3 = j * 3 + 1 + 1 + 1 by omega, encHs_cons, List.drop_succ_cons, List.drop_succ_cons, List.drop_succ_cons, ih]; rfl
theorem encHs_take (l : List Hunk) (j : Nat) : (encHs l).take (j * 3) = encHs (l.take j) := by
  induction l generalizing j with
  | nil => simp [encHs]
  | cons a l ih => cases j with
    | zero => simp [encHs]
    | succ j =>
      rw [show (j + 1) * 3 = j * 3 + 1 + 1 + 1 by omega, encHs_cons, List.take_succ_cons, List.take_succ_cons, List.take_succ_cons, ih]; rfl
/-- Hunks in memory, each with lines of its own. -/
def HkR : List Hunk → List AVal → HM → Prop
  | [], cs, m => cs = [] ∧ m = HM.nil
  | h :: l, cs, m => ∃ x cs' m1 m2, cs = .int .i64 h.1 :: .int .i64 h.2.1 :: x :: cs' ∧ m = m1 + m2 ∧ SlR 1 x (strs h.2.2) h.2.2.length m1 ∧ HkR l cs' m2
theorem HkR.clen : ∀ {l : List Hunk} {cs : List AVal} {m : HM}, HkR l cs m → cs.length = l.length * 3
  | [], cs, m, h => by rw [h.1]; rfl
  | g :: l, cs, m, ⟨x, cs', m1, m2, h1, _, _, h⟩ => by rw [h1]; have := HkR.clen h; simp; omega
theorem HkR.app : ∀ {l l' : List Hunk} {cs cs' : List AVal} {m m' : HM}, HkR l cs m → HkR l' cs' m' → HkR (l ++ l') (cs ++ cs') (m + m')
  | [], l', cs, cs', m, m', h, h' => by rw [h.1, h.2, HM.nil_add]; exact h'
  | g :: l, l', cs, cs', m, m', ⟨x, c, m1, m2, h1, h2, h3, h⟩, h' => ⟨x, c ++ cs', m1, m2 + m', by rw [h1]; rfl, by rw [h2]; ac_rfl, h3, HkR.app h h'⟩
theorem HkR.split : ∀ {l l' : List Hunk} {cs : List AVal} {m : HM}, HkR (l ++ l') cs m → ∃ c c' m1 m2, cs = c ++ c' ∧ m = m1 + m2 ∧ HkR l c m1 ∧ HkR l' c' m2
  | [], l', cs, m, h => ⟨[], cs, HM.nil, m, rfl, (HM.nil_add _).symm, ⟨rfl, rfl⟩, h⟩
  | g :: l, l', cs, m, ⟨x, c, m1, m2, h1, h2, h3, h⟩ => by
    obtain ⟨c1, c2, n1, n2, e1, e2, k1, k2⟩ := HkR.split h
    exact ⟨_, c2, m1 + n1, n2, by rw [h1, e1]; rfl, by rw [h2, e2]; ac_rfl, ⟨x, c1, m1, n1, rfl, rfl, h3, k1⟩, k2⟩
theorem HkR.one {h : Hunk} {cs : List AVal} {m : HM} : HkR [h] cs m ↔ ∃ x, cs = [.int .i64 h.1, .int .i64 h.2.1, x] ∧ SlR 1 x (strs h.2.2) h.2.2.length m := by
  constructor
  · rintro ⟨x, c, m1, m2, h1, h2, h3, h5, h6⟩
    exact ⟨x, by rw [h1, h5], by rw [h2, h6, HM.add_nil]; exact h3⟩
  · rintro ⟨x, h1, h2⟩
    exact ⟨x, [], m, HM.nil, h1, (HM.add_nil _).symm, h2, rfl, rfl⟩
theorem Has.part {S : Store} {a b : HM} (h : Has S (a + b)) : Has S a := h.left
/-- A slice that is written no more reads as its cells. -/
theorem deref_sl {S : Store} {k n : Nat} {x : AVal} {cells : List AVal} {m mf : HM} (hk : k = 1) (h : SlR k x cells n m) (hS : Has S (m + mf)) (d : Nat) (hc : ∀ c ∈ cells, deref S d c = c) : ∃ cs, deref S (d + 1) x = .ros n cs ∧ cs.take n = cells := by
  subst hk
  rcases h with ⟨rfl, rfl, rfl, rfl⟩ | ⟨p, v, off, cs, rfl, rfl, h1, rfl⟩
  · exact ⟨[], rfl, rfl⟩
  · refine ⟨(cs.drop off).map (deref S d), by simp only [deref]; rw [hS.get]; simp, ?_⟩
    rw [← List.map_take]
    have : (subL cs off (n * 1)).map (deref S d) = subL cs off (n * 1) := (List.map_congr_left hc).trans (List.map_id' _)
    rw [Nat.mul_one] at this
    simp only [subL, Nat.mul_one] at this ⊢
    exact this
def encS (s : Step) : List AVal := [.int .i64 s.1, .int .i64 s.2]
theorem encS_eq (l : List Step) : l.flatMap (encT tSt) = l.flatMap encS := rfl
theorem encS_at : ∀ {l : List Step} {j : Nat} {d : Step}, l[j]? = some d → takeN 2 ((l.flatMap encS).drop (j * 2)) = some [.int .i64 d.1, .int .i64 d.2]
  | [], j, d, h => by simp at h
  | a :: l, 0, d, h => by simp at h; subst h; rfl
  | a :: l, j + 1, d, h => by
    have := encS_at (l := l) (j := j) (d := d) (by simpa using h)
    rw [show (j + 1) * 2 = j * 2 + 2 by omega, List.flatMap_cons, show encS a = [.int .i64 a.1, .int .i64 a.2] from rfl, List.drop_append]
    simpa using this
theorem strs_flat (l : Lines) : l.flatMap (fun s => [AVal.str s]) = strs l := by
  induction l with
  | nil => rfl
  | cons x l ih => rw [List.flatMap_cons, ih]; rfl
theorem strs_eq (l : Lines) : encA (.sl .str) l = .ros l.length (strs l) := by
  show AVal.ros l.length (l.flatMap (fun s => [AVal.str s])) = _
  rw [strs_flat]
theorem way_use (hW : Con Try.prog f_diff_Way diff_Way_ct) {a b : Lines} (h : linesPre a ∧ linesPre b) {S : Store} {K : AVal → Store → Prop} (hk : K (.ros (stepsOf (wayKinds a b)).length ((stepsOf (wayKinds a b)).flatMap encS)) S) : ACalls Try.prog f_diff_Way [.ros a.length (strs a), .ros b.length (strs b)] S K := by
  have := (Con.frozen hW).plain (a, b) h rfl (S := S) (K := K) hk
  have e2 : encAs diff_Way_ct.args (a, b) = [encA (.sl .str) a, encA (.sl .str) b] := rfl
  rw [strs_eq, strs_eq] at e2
  rw [← e2]; exact this
end Go.Proofs.Ytdbgppfoenoijaa.H
