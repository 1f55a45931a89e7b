/- The typed conditions of the functions, printed by a program of the claim's author; each gives the contract of its function. Conditions: none. -/
import Derived.Test.YtdbgppfoenoijaaGMergeMerges
import Derived.Test.YtdbgppfoenoijaaVpA
import Derived.Test.YtdbgppfoenoijaaVpB
import Derived.Test.YtdbgppfoenoijaaVpC
import Derived.Test.YtdbgppfoenoijaaVpE
import Derived.Test.YtdbgppfoenoijaaVpT
import Derived.Test.YtdbgppfoenoijaaVpMG
import Derived.Test.YtdbgppfoenoijaaVpMH
import Derived.Test.YtdbgppfoenoijaaVpMI
import Derived.Test.YtdbgppfoenoijaaVpMJ
import Derived.Test.YtdbgppfoenoijaaVpMK
import Derived.Test.YtdbgppfoenoijaaVpML
import Derived.Test.YtdbgppfoenoijaaVpMM
import Derived.Test.YtdbgppfoenoijaaVpMN
import Derived.Test.YtdbgppfoenoijaaVpMO
import Derived.Test.YtdbgppfoenoijaaVpMP
import Derived.Test.YtdbgppfoenoijaaH7
import Derived.Test.YtdbgppfoenoijaaH9
import Derived.Test.YtdbgppfoenoijaaBase
set_option linter.unusedVariables false
set_option linter.unusedSimpArgs false
set_option maxRecDepth 100000
namespace Go.Proofs.Ytdbgppfoenoijaa
open Go.Vc Go.Fu

theorem diff_Way_vc (hC : Cons Try.prog [])
 (H : ∀ (a : List (List UInt8)) (b : List (List UInt8)), (linesPre a ∧ linesPre b) →
 inI64 ((↑a.length : Int) + 1) ∧
 (↑a.length : Int) + 1 = (↑a.length : Int) + 1 ∧
 0 ≤ (↑a.length : Int) + 1 ∧
 24 * ((↑a.length : Int) + 1).toNat ≤ 140737488355328 ∧
 ∃ (I : Int → List (List Int) → Prop),
 ∃ (m : Int → List (List Int) → Nat),
 I (↑a.length : Int) (List.replicate ((↑a.length : Int) + 1).toNat (noRow Int)) ∧
 ∀ (i : Int) (out : List (List Int)),
 I i out →
 (0 ≤ i →
 inI64 ((↑b.length : Int) + 1) ∧
 (↑b.length : Int) + 1 = (↑b.length : Int) + 1 ∧
 0 ≤ (↑b.length : Int) + 1 ∧
 8 * ((↑b.length : Int) + 1).toNat ≤ 140737488355328 ∧
 0 ≤ i ∧
 i < (↑out.length : Int) ∧
 ∃ (I_1 : Int → List (List Int) → Prop),
 ∃ (m_1 : Int → List (List Int) → Nat),
 I_1 (↑b.length : Int)
 (out.set i.toNat (List.replicate ((↑b.length : Int) + 1).toNat 0)) ∧
 ∀ (k : Int) (out_1 : List (List Int)),
 I_1 k out_1 →
 (0 ≤ k →
 (i = (↑a.length : Int) →
 0 ≤ i ∧
 i < (↑out_1.length : Int) ∧
 inI64 ((↑b.length : Int) - k) ∧
 0 ≤ k ∧
 k < (↑(gt out_1 i).length : Int) ∧
 inI64 (k - 1) ∧
 I_1 (k - 1)
 (out_1.set i.toNat
 ((gt out_1 i).set k.toNat
 ((↑b.length : Int) - k))) ∧
 m_1 (k - 1)
 (out_1.set i.toNat
 ((gt out_1 i).set k.toNat
 ((↑b.length : Int) - k))) <
 m_1 k out_1) ∧
 (¬i = (↑a.length : Int) →
 (k = (↑b.length : Int) →
 0 ≤ i ∧
 i < (↑out_1.length : Int) ∧
 inI64 ((↑a.length : Int) - i) ∧
 0 ≤ k ∧
 k < (↑(gt out_1 i).length : Int) ∧
 inI64 (k - 1) ∧
 I_1 (k - 1)
 (out_1.set i.toNat
 ((gt out_1 i).set k.toNat
 ((↑a.length : Int) - i))) ∧
 m_1 (k - 1)
 (out_1.set i.toNat
 ((gt out_1 i).set k.toNat
 ((↑a.length : Int) - i))) <
 m_1 k out_1) ∧
 (¬k = (↑b.length : Int) →
 0 ≤ i ∧
 i < (↑a.length : Int) ∧
 0 ≤ k ∧
 k < (↑b.length : Int) ∧
 (gt a i = gt b k →
 0 ≤ i ∧
 i < (↑out_1.length : Int) ∧
 inI64 (i + 1) ∧
 0 ≤ i + 1 ∧
 i + 1 < (↑out_1.length : Int) ∧
 inI64 (k + 1) ∧
 0 ≤ k + 1 ∧
 k + 1 <
 (↑(gt out_1 (i + 1)).length :
 Int) ∧
 0 ≤ k ∧
 k < (↑(gt out_1 i).length : Int) ∧
 inI64 (k - 1) ∧
 I_1 (k - 1)
 (out_1.set i.toNat
 ((gt out_1 i).set
 k.toNat
 (gt (gt out_1 (i + 1))
 (k + 1)))) ∧
 m_1 (k - 1)
 (out_1.set i.toNat
 ((gt out_1 i).set
 k.toNat
 (gt
 (gt out_1 (i + 1))
 (k + 1)))) <
 m_1 k out_1) ∧
 (¬gt a i = gt b k →
 0 ≤ i ∧
 i < (↑out_1.length : Int) ∧
 inI64 (i + 1) ∧
 0 ≤ i + 1 ∧
 i + 1 < (↑out_1.length : Int) ∧
 0 ≤ k ∧
 k < (↑(gt out_1 (i + 1)).length : Int) ∧
 0 ≤ i ∧
 i < (↑out_1.length : Int) ∧
 inI64 (k + 1) ∧
 0 ≤ k + 1 ∧
 k + 1 <
 (↑(gt out_1 i).length :
 Int) ∧
 inI64
 (1 +
 min
 (gt
 (gt out_1 (i + 1))
 k)
 (gt (gt out_1 i)
 (k + 1))) ∧
 0 ≤ k ∧
 k <
 (↑(gt out_1
 i).length :
 Int) ∧
 inI64 (k - 1) ∧
 I_1 (k - 1)
 (out_1.set
 i.toNat
 ((gt out_1
 i).set
 k.toNat
 (1 +
 min
 (gt
 (gt
 out_1
 (i +
 1))
 k)
 (gt
 (gt
 out_1
 i)
 (k +
 1))))) ∧
 m_1 (k - 1)
 (out_1.set
 i.toNat
 ((gt out_1
 i).set
 k.toNat
 (1 +
 min
 (gt
 (gt
 out_1
 (i +
 1))
 k)
 (gt
 (gt
 out_1
 i)
 (k +
 1))))) <
 m_1 k
 out_1)))) ∧
 (¬0 ≤ k → inI64 (i - 1) ∧ I (i - 1) out_1 ∧ m (i - 1) out_1 < m i out)) ∧
 (¬0 ≤ i →
 ∃ (I : Int → Int → List (Int × Int) → Prop),
 ∃ (m : Int → Int → List (Int × Int) → Nat),
 (out = out ∧ I 0 0 []) ∧
 ∀ (i k : Int) (out_1 : List (Int × Int)),
 I i k out_1 →
 (i < (↑a.length : Int) ∨ k < (↑b.length : Int) →
 (i < (↑a.length : Int) ∧ k < (↑b.length : Int) → 0 ≤ i) ∧
 (i < (↑a.length : Int) ∧ k < (↑b.length : Int) → i < (↑a.length : Int)) ∧
 (i < (↑a.length : Int) ∧ k < (↑b.length : Int) → 0 ≤ k) ∧
 (i < (↑a.length : Int) ∧ k < (↑b.length : Int) → k < (↑b.length : Int)) ∧
 ((i < (↑a.length : Int) ∧ k < (↑b.length : Int)) ∧ gt a i = gt b k →
 (0 < (↑out_1.length : Int) → inI64 ((↑out_1.length : Int) - 1)) ∧
 (0 < (↑out_1.length : Int) → 0 ≤ (↑out_1.length : Int) - 1) ∧
 (0 < (↑out_1.length : Int) →
 (↑out_1.length : Int) - 1 < (↑out_1.length : Int)) ∧
 (0 < (↑out_1.length : Int) ∧
 (gt out_1 ((↑out_1.length : Int) - 1)).fst = 1 →
 inI64 ((↑out_1.length : Int) - 1) ∧
 0 ≤ (↑out_1.length : Int) - 1 ∧
 (↑out_1.length : Int) - 1 < (↑out_1.length : Int) ∧
 inI64 ((gt out_1 ((↑out_1.length : Int) - 1)).snd + 1) ∧
 0 ≤ (↑out_1.length : Int) - 1 ∧
 (↑out_1.length : Int) - 1 < (↑out_1.length : Int) ∧
 inI64 (i + 1) ∧
 inI64 (k + 1) ∧
 out = out ∧
 I (i + 1) (k + 1)
 (out_1.set
 ((↑out_1.length : Int) - 1).toNat
 ((gt out_1
 ((↑out_1.length : Int) -
 1)).fst,
 (gt out_1
 ((↑out_1.length : Int) -
 1)).snd +
 1)) ∧
 m (i + 1) (k + 1)
 (out_1.set
 ((↑out_1.length : Int) - 1).toNat
 ((gt out_1
 ((↑out_1.length : Int) -
 1)).fst,
 (gt out_1
 ((↑out_1.length : Int) -
 1)).snd +
 1)) <
 m i k out_1) ∧
 (¬(0 < (↑out_1.length : Int) ∧
 (gt out_1 ((↑out_1.length : Int) - 1)).fst = 1) →
 (out_1.length + 1) * 16 ≤ 140737488355328 ∧
 inI64 (i + 1) ∧
 inI64 (k + 1) ∧
 out = out ∧
 I (i + 1) (k + 1) (out_1 ++ [(1, 1)]) ∧
 m (i + 1) (k + 1) (out_1 ++ [(1, 1)]) <
 m i k out_1)) ∧
 (¬((i < (↑a.length : Int) ∧ k < (↑b.length : Int)) ∧ gt a i = gt b k) →
 (i < (↑a.length : Int) → inI64 (i + 1)) ∧
 (i < (↑a.length : Int) → 0 ≤ i + 1) ∧
 (i < (↑a.length : Int) → i + 1 < (↑out.length : Int)) ∧
 (i < (↑a.length : Int) → 0 ≤ k) ∧
 (i < (↑a.length : Int) → k < (↑(gt out (i + 1)).length : Int)) ∧
 (i < (↑a.length : Int) → inI64 (gt (gt out (i + 1)) k + 1)) ∧
 (i < (↑a.length : Int) → 0 ≤ i) ∧
 (i < (↑a.length : Int) → i < (↑out.length : Int)) ∧
 (i < (↑a.length : Int) → 0 ≤ k) ∧
 (i < (↑a.length : Int) →
 k < (↑(gt out i).length : Int)) ∧
 (i < (↑a.length : Int) ∧
 gt (gt out (i + 1)) k + 1 = gt (gt out i) k →
 (0 < (↑out_1.length : Int) →
 inI64 ((↑out_1.length : Int) - 1)) ∧
 (0 < (↑out_1.length : Int) →
 0 ≤ (↑out_1.length : Int) - 1) ∧
 (0 < (↑out_1.length : Int) →
 (↑out_1.length : Int) - 1 <
 (↑out_1.length : Int)) ∧
 (0 < (↑out_1.length : Int) ∧
 (gt out_1
 ((↑out_1.length : Int) -
 1)).fst =
 2 →
 inI64 ((↑out_1.length : Int) - 1) ∧
 0 ≤ (↑out_1.length : Int) - 1 ∧
 (↑out_1.length : Int) - 1 <
 (↑out_1.length : Int) ∧
 inI64
 ((gt out_1
 ((↑out_1.length :
 Int) -
 1)).snd +
 1) ∧
 0 ≤
 (↑out_1.length : Int) -
 1 ∧
 (↑out_1.length : Int) - 1 <
 (↑out_1.length : Int) ∧
 inI64 (i + 1) ∧
 out = out ∧
 I (i + 1) k
 (out_1.set
 ((↑out_1.length :
 Int) -
 1).toNat
 ((gt out_1
 ((↑out_1.length :
 Int) -
 1)).fst,
 (gt out_1
 ((↑out_1.length :
 Int) -
 1)).snd +
 1)) ∧
 m (i + 1) k
 (out_1.set
 ((↑out_1.length :
 Int) -
 1).toNat
 ((gt out_1
 ((↑out_1.length :
 Int) -
 1)).fst,
 (gt out_1
 ((↑out_1.length :
 Int) -
 1)).snd +
 1)) <
 m i k out_1) ∧
 (¬(0 < (↑out_1.length : Int) ∧
 (gt out_1
 ((↑out_1.length : Int) -
 1)).fst =
 2) →
 (out_1.length + 1) * 16 ≤
 140737488355328 ∧
 inI64 (i + 1) ∧
 out = out ∧
 I (i + 1) k
 (out_1 ++ [(2, 1)]) ∧
 m (i + 1) k
 (out_1 ++ [(2, 1)]) <
 m i k out_1)) ∧
 (¬(i < (↑a.length : Int) ∧
 gt (gt out (i + 1)) k + 1 =
 gt (gt out i) k) →
 (0 < (↑out_1.length : Int) →
 inI64 ((↑out_1.length : Int) - 1)) ∧
 (0 < (↑out_1.length : Int) →
 0 ≤ (↑out_1.length : Int) - 1) ∧
 (0 < (↑out_1.length : Int) →
 (↑out_1.length : Int) - 1 <
 (↑out_1.length : Int)) ∧
 (0 < (↑out_1.length : Int) ∧
 (gt out_1
 ((↑out_1.length : Int) -
 1)).fst =
 3 →
 inI64 ((↑out_1.length : Int) - 1) ∧
 0 ≤ (↑out_1.length : Int) - 1 ∧
 (↑out_1.length : Int) - 1 <
 (↑out_1.length : Int) ∧
 inI64
 ((gt out_1
 ((↑out_1.length :
 Int) -
 1)).snd +
 1) ∧
 0 ≤
 (↑out_1.length : Int) -
 1 ∧
 (↑out_1.length : Int) - 1 <
 (↑out_1.length : Int) ∧
 inI64 (k + 1) ∧
 out = out ∧
 I i (k + 1)
 (out_1.set
 ((↑out_1.length :
 Int) -
 1).toNat
 ((gt out_1
 ((↑out_1.length :
 Int) -
 1)).fst,
 (gt out_1
 ((↑out_1.length :
 Int) -
 1)).snd +
 1)) ∧
 m i (k + 1)
 (out_1.set
 ((↑out_1.length :
 Int) -
 1).toNat
 ((gt out_1
 ((↑out_1.length :
 Int) -
 1)).fst,
 (gt out_1
 ((↑out_1.length :
 Int) -
 1)).snd +
 1)) <
 m i k out_1) ∧
 (¬(0 < (↑out_1.length : Int) ∧
 (gt out_1
 ((↑out_1.length : Int) -
 1)).fst =
 3) →
 (out_1.length + 1) * 16 ≤
 140737488355328 ∧
 inI64 (k + 1) ∧
 out = out ∧
 I i (k + 1)
 (out_1 ++ [(3, 1)]) ∧
 m i (k + 1)
 (out_1 ++ [(3, 1)]) <
 m i k out_1)))) ∧
 (¬(i < (↑a.length : Int) ∨ k < (↑b.length : Int)) → out_1 = stepsOf (wayKinds a b)))) :
 Con Try.prog f_diff_Way diff_Way_ct := ⟨diff_Way_ok.able rfl, fun x hx =>
 con_eq hC (L := [(f_diff_costs, diff_costs_fi), (f_diff_add, diff_add_fi)]) (⟨diff_costs_ok, diff_add_ok, trivial⟩) diff_Way_ok (ct := diff_Way_ct) (depth := 3) rfl (by kernel_rfl) x (H (@id (List (List UInt8) × List (List UInt8)) x).1 (@id (List (List UInt8) × List (List UInt8)) x).2 (mpr' hx (by kernel_rfl))) (by kernel_rfl)⟩

theorem ref_LinesFault_vc (hC : Cons Try.prog [])
 (H : ∀ (ls : List (List (List UInt8))), (lsPre ls) →
 ∃ (I : Int → Prop),
 ∃ (m : Int → Nat),
 I 0 ∧
 ∀ (x : Int),
 I x →
 (x < (↑ls.length : Int) →
 0 ≤ x ∧
 x < (↑ls.length : Int) ∧
 (80 < (↑(gt ls x).length : Int) → 1 = linesFault ls) ∧
 (¬80 < (↑(gt ls x).length : Int) →
 ∃ (I_1 : Int → Prop),
 ∃ (m_1 : Int → Nat),
 I_1 0 ∧
 ∀ (x_1 : Int),
 I_1 x_1 →
 (x_1 < (↑(gt ls x).length : Int) →
 0 ≤ x_1 ∧
 x_1 < (↑(gt ls x).length : Int) ∧
 (600 < (↑(gt (gt ls x) x_1).length : Int) → 1 = linesFault ls) ∧
 (¬600 < (↑(gt (gt ls x) x_1).length : Int) →
 inI64 (x_1 + 1) ∧ I_1 (x_1 + 1) ∧ m_1 (x_1 + 1) < m_1 x_1)) ∧
 (¬x_1 < (↑(gt ls x).length : Int) → inI64 (x + 1) ∧ I (x + 1) ∧ m (x + 1) < m x))) ∧
 (¬x < (↑ls.length : Int) → 0 = linesFault ls)) :
 Con Try.prog f_ref_LinesFault ref_LinesFault_ct := ⟨ref_LinesFault_ok.able rfl, fun x hx =>
 con_eq hC (L := []) (trivial) ref_LinesFault_ok (ct := ref_LinesFault_ct) (depth := 0) rfl (by kernel_rfl) x (H (@id (List (List (List UInt8))) x) (mpr' hx (by kernel_rfl))) (by kernel_rfl)⟩

theorem ref_common_vc (hC : Cons Try.prog [])
 (H : ∀ (a : List (List UInt8)) (b : List (List UInt8)), (linesPre a ∧ linesPre b) →
 inI64 ((↑b.length : Int) + 1) ∧
 (↑b.length : Int) + 1 = (↑b.length : Int) + 1 ∧
 0 ≤ (↑b.length : Int) + 1 ∧
 8 * ((↑b.length : Int) + 1).toNat ≤ 140737488355328 ∧
 ∃ (I : Int → List Int → Prop),
 ∃ (m : Int → List Int → Nat),
 I 0 (List.replicate ((↑b.length : Int) + 1).toNat 0) ∧
 ∀ (x : Int) (row : List Int),
 I x row →
 (x < (↑a.length : Int) →
 0 ≤ x ∧
 x < (↑a.length : Int) ∧
 inI64 ((↑b.length : Int) + 1) ∧
 (↑b.length : Int) + 1 = (↑b.length : Int) + 1 ∧
 0 ≤ (↑b.length : Int) + 1 ∧
 8 * ((↑b.length : Int) + 1).toNat ≤ 140737488355328 ∧
 ∃ (I_1 : Int → List Int → Prop),
 ∃ (m_1 : Int → List Int → Nat),
 (row = row ∧ I_1 0 (List.replicate ((↑b.length : Int) + 1).toNat 0)) ∧
 ∀ (x_1 : Int) (next : List Int),
 I_1 x_1 next →
 (x_1 < (↑b.length : Int) →
 0 ≤ x_1 ∧
 x_1 < (↑b.length : Int) ∧
 inI64 (x_1 + 1) ∧
 inI64 (x_1 + 1) ∧
 0 ≤ x_1 + 1 ∧
 x_1 + 1 < (↑row.length : Int) ∧
 0 ≤ x_1 ∧
 x_1 < (↑next.length : Int) ∧
 0 ≤ x_1 + 1 ∧
 x_1 + 1 < (↑next.length : Int) ∧
 (gt a x = gt b x_1 →
 inI64 (x_1 + 1) ∧
 inI64 (x_1 + 1) ∧
 0 ≤ x_1 + 1 ∧
 x_1 + 1 <
 (↑(next.set (x_1 + 1).toNat
 (max (gt row (x_1 + 1))
 (gt next x_1))).length :
 Int) ∧
 0 ≤ x_1 ∧
 x_1 < (↑row.length : Int) ∧
 inI64 (gt row x_1 + 1) ∧
 0 ≤ x_1 + 1 ∧
 x_1 + 1 <
 (↑(next.set (x_1 + 1).toNat
 (max
 (gt row (x_1 + 1))
 (gt next
 x_1))).length :
 Int) ∧
 inI64 (x_1 + 1) ∧
 row = row ∧
 I_1 (x_1 + 1)
 ((next.set
 (x_1 + 1).toNat
 (max
 (gt row
 (x_1 + 1))
 (gt next
 x_1))).set
 (x_1 + 1).toNat
 (max
 (gt
 (next.set
 (x_1 +
 1).toNat
 (max
 (gt row
 (x_1 + 1))
 (gt next
 x_1)))
 (x_1 + 1))
 (gt row x_1 +
 1))) ∧
 m_1 (x_1 + 1)
 ((next.set
 (x_1 +
 1).toNat
 (max
 (gt row
 (x_1 + 1))
 (gt next
 x_1))).set
 (x_1 + 1).toNat
 (max
 (gt
 (next.set
 (x_1 +
 1).toNat
 (max
 (gt row
 (x_1 +
 1))
 (gt next
 x_1)))
 (x_1 + 1))
 (gt row x_1 +
 1))) <
 m_1 x_1 next) ∧
 (¬gt a x = gt b x_1 →
 inI64 (x_1 + 1) ∧
 row = row ∧
 I_1 (x_1 + 1)
 (next.set (x_1 + 1).toNat
 (max (gt row (x_1 + 1))
 (gt next x_1))) ∧
 m_1 (x_1 + 1)
 (next.set (x_1 + 1).toNat
 (max (gt row (x_1 + 1))
 (gt next x_1))) <
 m_1 x_1 next)) ∧
 (¬x_1 < (↑b.length : Int) →
 inI64 (x + 1) ∧ I (x + 1) next ∧ m (x + 1) next < m x row)) ∧
 (¬x < (↑a.length : Int) →
 0 ≤ (↑b.length : Int) ∧
 (↑b.length : Int) < (↑row.length : Int) ∧ gt row (↑b.length : Int) = (↑(lcs a b) : Int))) :
 Con Try.prog f_ref_common ref_common_ct := ⟨ref_common_ok.able rfl, fun x hx =>
 con_eq hC (L := []) (trivial) ref_common_ok (ct := ref_common_ct) (depth := 0) rfl (by kernel_rfl) x (H (@id (List (List UInt8) × List (List UInt8)) x).1 (@id (List (List UInt8) × List (List UInt8)) x).2 (mpr' hx (by kernel_rfl))) (by kernel_rfl)⟩

theorem ref_DiffSteps_vc (hC : Cons Try.prog [(f_ref_LinesFault, ref_LinesFault_ct), (f_ref_common, ref_common_ct)])
 (H : ∀ (a : List (List UInt8)) (b : List (List UInt8)), (True) →
 lsPre [a, b] ∧
 (linesFault [a, b] ≠ (0 : Int) → [] = (diffSteps a b).fst ∧ linesFault [a, b] = (diffSteps a b).snd) ∧
 (¬linesFault [a, b] ≠ (0 : Int) →
 ∃ (I : List (List UInt8) → List (List UInt8) → List Int → Prop),
 ∃ (m : List (List UInt8) → List (List UInt8) → List Int → Nat),
 I a b [] ∧
 ∀ (a_2 b_1 : List (List UInt8)) (kinds : List Int),
 I a_2 b_1 kinds →
 ((0 : Int) < (↑a_2.length : Int) ∨ (0 : Int) < (↑b_1.length : Int) →
 ((0 : Int) < (↑a_2.length : Int) ∧ (0 : Int) < (↑b_1.length : Int) → (0 : Int) ≤ (0 : Int)) ∧
 ((0 : Int) < (↑a_2.length : Int) ∧ (0 : Int) < (↑b_1.length : Int) →
 (0 : Int) < (↑a_2.length : Int)) ∧
 ((0 : Int) < (↑a_2.length : Int) ∧ (0 : Int) < (↑b_1.length : Int) → (0 : Int) ≤ (0 : Int)) ∧
 ((0 : Int) < (↑a_2.length : Int) ∧ (0 : Int) < (↑b_1.length : Int) →
 (0 : Int) < (↑b_1.length : Int)) ∧
 (((0 : Int) < (↑a_2.length : Int) ∧ (0 : Int) < (↑b_1.length : Int)) ∧
 gt a_2 (0 : Int) = gt b_1 (0 : Int) →
 (kinds.length + (1 : Nat)) * (8 : Nat) ≤ (140737488355328 : Nat) ∧
 (0 : Int) ≤ (1 : Int) ∧
 (1 : Int) ≤ (↑a_2.length : Int) ∧
 (↑a_2.length : Int) ≤ (↑a_2.length : Int) ∧
 (0 : Int) ≤ (1 : Int) ∧
 (1 : Int) ≤ (↑b_1.length : Int) ∧
 (↑b_1.length : Int) ≤ (↑b_1.length : Int) ∧
 I
 (List.drop (Int.toNat (1 : Int))
 (List.take (↑a_2.length : Int).toNat a_2))
 (List.drop (Int.toNat (1 : Int))
 (List.take (↑b_1.length : Int).toNat b_1))
 (kinds ++ [(1 : Int)]) ∧
 m
 (List.drop (Int.toNat (1 : Int))
 (List.take (↑a_2.length : Int).toNat a_2))
 (List.drop (Int.toNat (1 : Int))
 (List.take (↑b_1.length : Int).toNat b_1))
 (kinds ++ [(1 : Int)]) <
 m a_2 b_1 kinds) ∧
 (¬(((0 : Int) < (↑a_2.length : Int) ∧ (0 : Int) < (↑b_1.length : Int)) ∧
 gt a_2 (0 : Int) = gt b_1 (0 : Int)) →
 ((0 : Int) < (↑a_2.length : Int) → (0 : Int) ≤ (1 : Int)) ∧
 ((0 : Int) < (↑a_2.length : Int) → (1 : Int) ≤ (↑a_2.length : Int)) ∧
 ((0 : Int) < (↑a_2.length : Int) → (↑a_2.length : Int) ≤ (↑a_2.length : Int)) ∧
 ((0 : Int) < (↑a_2.length : Int) →
 linesPre
 (List.drop (Int.toNat (1 : Int))
 (List.take (↑a_2.length : Int).toNat a_2)) ∧
 linesPre b_1) ∧
 ((0 : Int) < (↑a_2.length : Int) → linesPre a_2 ∧ linesPre b_1) ∧
 ((0 : Int) < (↑a_2.length : Int) ∧
 (↑(lcs
 (List.drop (Int.toNat (1 : Int))
 (List.take (↑a_2.length : Int).toNat a_2))
 b_1) :
 Int) =
 (↑(lcs a_2 b_1) : Int) →
 (kinds.length + (1 : Nat)) * (8 : Nat) ≤ (140737488355328 : Nat) ∧
 (0 : Int) ≤ (1 : Int) ∧
 (1 : Int) ≤ (↑a_2.length : Int) ∧
 (↑a_2.length : Int) ≤ (↑a_2.length : Int) ∧
 I
 (List.drop (Int.toNat (1 : Int))
 (List.take (↑a_2.length : Int).toNat a_2))
 b_1 (kinds ++ [(2 : Int)]) ∧
 m
 (List.drop (Int.toNat (1 : Int))
 (List.take (↑a_2.length : Int).toNat a_2))
 b_1 (kinds ++ [(2 : Int)]) <
 m a_2 b_1 kinds) ∧
 (¬((0 : Int) < (↑a_2.length : Int) ∧
 (↑(lcs
 (List.drop (Int.toNat (1 : Int))
 (List.take (↑a_2.length : Int).toNat a_2))
 b_1) :
 Int) =
 (↑(lcs a_2 b_1) : Int)) →
 (kinds.length + (1 : Nat)) * (8 : Nat) ≤ (140737488355328 : Nat) ∧
 (0 : Int) ≤ (1 : Int) ∧
 (1 : Int) ≤ (↑b_1.length : Int) ∧
 (↑b_1.length : Int) ≤ (↑b_1.length : Int) ∧
 I a_2
 (List.drop (Int.toNat (1 : Int))
 (List.take (↑b_1.length : Int).toNat b_1))
 (kinds ++ [(3 : Int)]) ∧
 m a_2
 (List.drop (Int.toNat (1 : Int))
 (List.take (↑b_1.length : Int).toNat b_1))
 (kinds ++ [(3 : Int)]) <
 m a_2 b_1 kinds))) ∧
 (¬((0 : Int) < (↑a_2.length : Int) ∨ (0 : Int) < (↑b_1.length : Int)) →
 ∃ (I : Int → List (Int × Int) → Prop),
 ∃ (m : Int → List (Int × Int) → Nat),
 (kinds = kinds ∧ I (0 : Int) []) ∧
 ∀ (x : Int) (out : List (Int × Int)),
 I x out →
 (x < (↑kinds.length : Int) →
 (0 : Int) ≤ x ∧
 x < (↑kinds.length : Int) ∧
 ((0 : Int) < x → inI64 (x - (1 : Int))) ∧
 ((0 : Int) < x → (0 : Int) ≤ x - (1 : Int)) ∧
 ((0 : Int) < x → x - (1 : Int) < (↑kinds.length : Int)) ∧
 ((0 : Int) < x ∧ gt kinds (x - (1 : Int)) = gt kinds x →
 inI64 ((↑out.length : Int) - (1 : Int)) ∧
 (0 : Int) ≤ (↑out.length : Int) - (1 : Int) ∧
 (↑out.length : Int) - (1 : Int) < (↑out.length : Int) ∧
 inI64
 ((gt out ((↑out.length : Int) - (1 : Int))).snd + (1 : Int)) ∧
 (0 : Int) ≤ (↑out.length : Int) - (1 : Int) ∧
 (↑out.length : Int) - (1 : Int) < (↑out.length : Int) ∧
 inI64 (x + (1 : Int)) ∧
 kinds = kinds ∧
 I (x + (1 : Int))
 (out.set ((↑out.length : Int) - (1 : Int)).toNat
 ((gt out ((↑out.length : Int) - (1 : Int))).fst,
 (gt out ((↑out.length : Int) - (1 : Int))).snd +
 (1 : Int))) ∧
 m (x + (1 : Int))
 (out.set ((↑out.length : Int) - (1 : Int)).toNat
 ((gt out ((↑out.length : Int) - (1 : Int))).fst,
 (gt out
 ((↑out.length : Int) - (1 : Int))).snd +
 (1 : Int))) <
 m x out) ∧
 (¬((0 : Int) < x ∧ gt kinds (x - (1 : Int)) = gt kinds x) →
 (out.length + (1 : Nat)) * (16 : Nat) ≤ (140737488355328 : Nat) ∧
 inI64 (x + (1 : Int)) ∧
 kinds = kinds ∧
 I (x + (1 : Int)) (out ++ [(gt kinds x, (1 : Int))]) ∧
 m (x + (1 : Int)) (out ++ [(gt kinds x, (1 : Int))]) <
 m x out)) ∧
 (¬x < (↑kinds.length : Int) →
 out = (diffSteps a b).fst ∧ (0 : Int) = (diffSteps a b).snd)))) :
 Con Try.prog f_ref_DiffSteps ref_DiffSteps_ct := ⟨ref_DiffSteps_ok.able rfl, fun x hx =>
 con_eq hC (L := []) (trivial) ref_DiffSteps_ok (ct := ref_DiffSteps_ct) (depth := 0) rfl (by kernel_rfl) x (H (@id (List (List UInt8) × List (List UInt8)) x).1 (@id (List (List UInt8) × List (List UInt8)) x).2 (mpr' hx (by kernel_rfl))) (by kernel_rfl)⟩

theorem ref_Merged_vc (hC : Cons Try.prog [(f_ref_LinesFault, ref_LinesFault_ct), (f_ref_touched, ref_touched_ct)])
 (H : ∀ (base : List (List UInt8)) (a : List (List UInt8)) (b : List (List UInt8)), (lsPre [base, a, b]) →
 lsPre [base, a, b] ∧
 (linesFault [base, a, b] ≠ 0 →
 [] = (merged base a b).fst ∧
 0 = (merged base a b).snd.fst ∧ linesFault [base, a, b] = (merged base a b).snd.snd) ∧
 (¬linesFault [base, a, b] ≠ 0 →
 linesFault [base, a] = 0 ∧
 linesFault [base, b] = 0 ∧
 ∃ (I : Int → Int → List (List UInt8) → List (List UInt8) → Prop),
 ∃ (m : Int → Int → List (List UInt8) → List (List UInt8) → Nat),
 I 0 0 base [] ∧
 ∀ (clashes i : Int) (make1 out : List (List UInt8)),
 I clashes i make1 out →
 (i ≤ (↑make1.length : Int) →
 0 ≤ i ∧
 i < (↑(touchL base a).fst.length : Int) ∧
 (¬gt (touchL base a).fst i = true → 0 ≤ i) ∧
 (¬gt (touchL base a).fst i = true → i < (↑(touchL base b).fst.length : Int)) ∧
 (¬gt (touchL base a).fst i = true ∧ ¬gt (touchL base b).fst i = true →
 (i < (↑make1.length : Int) →
 0 ≤ i ∧
 i < (↑make1.length : Int) ∧
 (out.length + 1) * 16 ≤ 140737488355328 ∧
 inI64 (i + 1) ∧
 I clashes (i + 1) make1 (out ++ [gt make1 i]) ∧
 m clashes (i + 1) make1 (out ++ [gt make1 i]) <
 m clashes i make1 out) ∧
 (¬i < (↑make1.length : Int) →
 inI64 (i + 1) ∧
 I clashes (i + 1) make1 out ∧
 m clashes (i + 1) make1 out < m clashes i make1 out)) ∧
 (¬(¬gt (touchL base a).fst i = true ∧ ¬gt (touchL base b).fst i = true) →
 ∃ (I_1 : Int → Prop),
 ∃ (m_1 : Int → Nat),
 (make1 = make1 ∧ out = out ∧ I_1 i) ∧
 ∀ (hi : Int),
 I_1 hi →
 (hi < (↑make1.length : Int) → 0 ≤ hi) ∧
 (hi < (↑make1.length : Int) →
 hi < (↑(touchL base a).snd.fst.length : Int)) ∧
 (hi < (↑make1.length : Int) ∧ ¬gt (touchL base a).snd.fst hi = true →
 0 ≤ hi) ∧
 (hi < (↑make1.length : Int) ∧
 ¬gt (touchL base a).snd.fst hi = true →
 hi < (↑(touchL base b).snd.fst.length : Int)) ∧
 (hi < (↑make1.length : Int) ∧
 (gt (touchL base a).snd.fst hi = true ∨
 gt (touchL base b).snd.fst hi = true) →
 inI64 (hi + 1) ∧
 make1 = make1 ∧
 out = out ∧ I_1 (hi + 1) ∧ m_1 (hi + 1) < m_1 hi) ∧
 (¬(hi < (↑make1.length : Int) ∧
 (gt (touchL base a).snd.fst hi = true ∨
 gt (touchL base b).snd.fst hi = true)) →
 ∃ (I_2 : Bool → Bool → Int → Prop),
 ∃ (m_2 : Bool → Bool → Int → Nat),
 (make1 = make1 ∧ out = out ∧ I_2 false false i) ∧
 ∀ (usesA usesB : Bool) (k : Int),
 I_2 usesA usesB k →
 (k ≤ hi →
 (¬usesA = true → 0 ≤ k) ∧
 (¬usesA = true →
 k < (↑(touchL base a).fst.length : Int)) ∧
 (¬usesB = true → 0 ≤ k) ∧
 (¬usesB = true →
 k <
 (↑(touchL base b).fst.length :
 Int)) ∧
 inI64 (k + 1) ∧
 make1 = make1 ∧
 out = out ∧
 I_2
 (bo
 (usesA = true ∨
 gt (touchL base a).fst k =
 true))
 (bo
 (usesB = true ∨
 gt (touchL base b).fst k =
 true))
 (k + 1) ∧
 m_2
 (bo
 (usesA = true ∨
 gt (touchL base a).fst
 k =
 true))
 (bo
 (usesB = true ∨
 gt (touchL base b).fst
 k =
 true))
 (k + 1) <
 m_2 usesA usesB k) ∧
 (¬k ≤ hi →
 ∃ (I_3 : Int → List (List UInt8) → Prop),
 ∃ (m_3 : Int → List (List UInt8) → Nat),
 (make1 = make1 ∧ out = out ∧ I_3 i []) ∧
 ∀ (i_1 : Int) (out_1 : List (List UInt8)),
 I_3 i_1 out_1 →
 (i_1 ≤ hi →
 0 ≤ i_1 ∧
 i_1 <
 (↑(touchL base
 a).snd.snd.length :
 Int) ∧
 (out_1.length +
 (gt
 (touchL base
 a).snd.snd
 i_1).length) *
 16 ≤
 140737488355328 ∧
 (i_1 < hi → 0 ≤ i_1) ∧
 (i_1 < hi →
 i_1 <
 (↑(touchL base
 a).snd.fst.length :
 Int)) ∧
 (i_1 < hi ∧
 ¬gt
 (touchL base
 a).snd.fst
 i_1 =
 true →
 0 ≤ i_1 ∧
 i_1 <
 (↑make1.length :
 Int) ∧
 ((out_1 ++
 gt
 (touchL
 base
 a).snd.snd
 i_1).length +
 1) *
 16 ≤
 140737488355328 ∧
 inI64
 (i_1 +
 1) ∧
 make1 =
 make1 ∧
 out =
 out ∧
 I_3
 (i_1 +
 1)
 (out_1 ++
 gt
 (touchL
 base
 a).snd.snd
 i_1 ++
 [gt
 make1
 i_1]) ∧
 m_3
 (i_1 +
 1)
 (out_1 ++
 gt
 (touchL
 base
 a).snd.snd
 i_1 ++
 [gt
 make1
 i_1]) <
 m_3
 i_1
 out_1) ∧
 (¬(i_1 < hi ∧
 ¬gt
 (touchL
 base
 a).snd.fst
 i_1 =
 true) →
 inI64 (i_1 + 1) ∧
 make1 = make1 ∧
 out = out ∧
 I_3 (i_1 + 1)
 (out_1 ++
 gt
 (touchL
 base
 a).snd.snd
 i_1) ∧
 m_3
 (i_1 +
 1)
 (out_1 ++
 gt
 (touchL
 base
 a).snd.snd
 i_1) <
 m_3 i_1
 out_1)) ∧
 (¬i_1 ≤ hi →
 ∃ (I_4 :
 Int → List (List UInt8) → Prop),
 ∃ (m_4 :
 Int →
 List (List UInt8) → Nat),
 (make1 = make1 ∧
 out = out ∧
 out_1 = out_1 ∧
 I_4 i []) ∧
 ∀ (i_2 : Int)
 (out_2 :
 List (List UInt8)),
 I_4 i_2 out_2 →
 (i_2 ≤ hi →
 0 ≤ i_2 ∧
 i_2 <
 (↑(touchL base
 b).snd.snd.length :
 Int) ∧
 (out_2.length +
 (gt
 (touchL
 base
 b).snd.snd
 i_2).length) *
 16 ≤
 140737488355328 ∧
 (i_2 < hi →
 0 ≤ i_2) ∧
 (i_2 < hi →
 i_2 <
 (↑(touchL
 base
 b).snd.fst.length :
 Int)) ∧
 (i_2 <
 hi ∧
 ¬gt
 (touchL
 base
 b).snd.fst
 i_2 =
 true →
 0 ≤
 i_2 ∧
 i_2 <
 (↑make1.length :
 Int) ∧
 ((out_2 ++
 gt
 (touchL
 base
 b).snd.snd
 i_2).length +
 1) *
 16 ≤
 140737488355328 ∧
 inI64
 (i_2 +
 1) ∧
 make1 =
 make1 ∧
 out =
 out ∧
 out_1 =
 out_1 ∧
 I_4
 (i_2 +
 1)
 (out_2 ++
 gt
 (touchL
 base
 b).snd.snd
 i_2 ++
 [gt
 make1
 i_2]) ∧
 m_4
 (i_2 +
 1)
 (out_2 ++
 gt
 (touchL
 base
 b).snd.snd
 i_2 ++
 [gt
 make1
 i_2]) <
 m_4
 i_2
 out_2) ∧
 (¬(i_2 <
 hi ∧
 ¬gt
 (touchL
 base
 b).snd.fst
 i_2 =
 true) →
 inI64
 (i_2 +
 1) ∧
 make1 =
 make1 ∧
 out =
 out ∧
 out_1 =
 out_1 ∧
 I_4
 (i_2 +
 1)
 (out_2 ++
 gt
 (touchL
 base
 b).snd.snd
 i_2) ∧
 m_4
 (i_2 +
 1)
 (out_2 ++
 gt
 (touchL
 base
 b).snd.snd
 i_2) <
 m_4
 i_2
 out_2)) ∧
 (¬i_2 ≤ hi →
 ∃ (I_5 :
 Bool →
 Int → Prop),
 ∃ (m_5 :
 Bool →
 Int → Nat),
 (make1 = make1 ∧
 out = out ∧
 out_1 =
 out_1 ∧
 out_2 =
 out_2 ∧
 I_5
 (bo
 ((↑out_1.length :
 Int) =
 (↑out_2.length :
 Int)))
 0) ∧
 ∀
 (same :
 Bool)
 (k : Int),
 I_5 same k →
 (same =
 true ∧
 k <
 (↑out_1.length :
 Int) →
 0 ≤
 k ∧
 k <
 (↑out_1.length :
 Int) ∧
 0 ≤
 k ∧
 k <
 (↑out_2.length :
 Int) ∧
 inI64
 (k +
 1) ∧
 make1 =
 make1 ∧
 out =
 out ∧
 out_1 =
 out_1 ∧
 out_2 =
 out_2 ∧
 I_5
 (bo
 (gt
 out_1
 k =
 gt
 out_2
 k))
 (k +
 1) ∧
 m_5
 (bo
 (gt
 out_1
 k =
 gt
 out_2
 k))
 (k +
 1) <
 m_5
 same
 k) ∧
 (¬(same =
 true ∧
 k <
 (↑out_1.length :
 Int)) →
 (¬usesB =
 true ∨
 same =
 true →
 (out.length +
 out_1.length) *
 16 ≤
 140737488355328 ∧
 (hi <
 (↑make1.length :
 Int) →
 0 ≤
 hi ∧
 hi <
 (↑make1.length :
 Int) ∧
 ((out ++
 out_1).length +
 1) *
 16 ≤
 140737488355328 ∧
 inI64
 (hi +
 1) ∧
 I
 clashes
 (hi +
 1)
 make1
 (out ++
 out_1 ++
 [gt
 make1
 hi]) ∧
 m
 clashes
 (hi +
 1)
 make1
 (out ++
 out_1 ++
 [gt
 make1
 hi]) <
 m
 clashes
 i
 make1
 out) ∧
 (¬hi <
 (↑make1.length :
 Int) →
 inI64
 (hi +
 1) ∧
 I
 clashes
 (hi +
 1)
 make1
 (out ++
 out_1) ∧
 m
 clashes
 (hi +
 1)
 make1
 (out ++
 out_1) <
 m
 clashes
 i
 make1
 out)) ∧
 (¬(¬usesB =
 true ∨
 same =
 true) →
 (¬usesA =
 true →
 (out.length +
 out_2.length) *
 16 ≤
 140737488355328 ∧
 (hi <
 (↑make1.length :
 Int) →
 0 ≤
 hi ∧
 hi <
 (↑make1.length :
 Int) ∧
 ((out ++
 out_2).length +
 1) *
 16 ≤
 140737488355328 ∧
 inI64
 (hi +
 1) ∧
 I
 clashes
 (hi +
 1)
 make1
 (out ++
 out_2 ++
 [gt
 make1
 hi]) ∧
 m
 clashes
 (hi +
 1)
 make1
 (out ++
 out_2 ++
 [gt
 make1
 hi]) <
 m
 clashes
 i
 make1
 out) ∧
 (¬hi <
 (↑make1.length :
 Int) →
 inI64
 (hi +
 1) ∧
 I
 clashes
 (hi +
 1)
 make1
 (out ++
 out_2) ∧
 m
 clashes
 (hi +
 1)
 make1
 (out ++
 out_2) <
 m
 clashes
 i
 make1
 out)) ∧
 (¬¬usesA =
 true →
 inI64
 (clashes +
 1) ∧
 (out.length +
 1) *
 16 ≤
 140737488355328 ∧
 ((out ++
 [[60,
 60,
 60,
 60,
 60,
 60,
 60]]).length +
 out_1.length) *
 16 ≤
 140737488355328 ∧
 ((out ++
 [[60,
 60,
 60,
 60,
 60,
 60,
 60]] ++
 out_1).length +
 1) *
 16 ≤
 140737488355328 ∧
 ((out ++
 [[60,
 60,
 60,
 60,
 60,
 60,
 60]] ++
 out_1 ++
 [[61,
 61,
 61,
 61,
 61,
 61,
 61]]).length +
 out_2.length) *
 16 ≤
 140737488355328 ∧
 ((out ++
 [[60,
 60,
 60,
 60,
 60,
 60,
 60]] ++
 out_1 ++
 [[61,
 61,
 61,
 61,
 61,
 61,
 61]] ++
 out_2).length +
 1) *
 16 ≤
 140737488355328 ∧
 (hi <
 (↑make1.length :
 Int) →
 0 ≤
 hi ∧
 hi <
 (↑make1.length :
 Int) ∧
 ((out ++
 [[60,
 60,
 60,
 60,
 60,
 60,
 60]] ++
 out_1 ++
 [[61,
 61,
 61,
 61,
 61,
 61,
 61]] ++
 out_2 ++
 [[62,
 62,
 62,
 62,
 62,
 62,
 62]]).length +
 1) *
 16 ≤
 140737488355328 ∧
 inI64
 (hi +
 1) ∧
 I
 (clashes +
 1)
 (hi +
 1)
 make1
 (out ++
 [[60,
 60,
 60,
 60,
 60,
 60,
 60]] ++
 out_1 ++
 [[61,
 61,
 61,
 61,
 61,
 61,
 61]] ++
 out_2 ++
 [[62,
 62,
 62,
 62,
 62,
 62,
 62]] ++
 [gt
 make1
 hi]) ∧
 m
 (clashes +
 1)
 (hi +
 1)
 make1
 (out ++
 [[60,
 60,
 60,
 60,
 60,
 60,
 60]] ++
 out_1 ++
 [[61,
 61,
 61,
 61,
 61,
 61,
 61]] ++
 out_2 ++
 [[62,
 62,
 62,
 62,
 62,
 62,
 62]] ++
 [gt
 make1
 hi]) <
 m
 clashes
 i
 make1
 out) ∧
 (¬hi <
 (↑make1.length :
 Int) →
 inI64
 (hi +
 1) ∧
 I
 (clashes +
 1)
 (hi +
 1)
 make1
 (out ++
 [[60,
 60,
 60,
 60,
 60,
 60,
 60]] ++
 out_1 ++
 [[61,
 61,
 61,
 61,
 61,
 61,
 61]] ++
 out_2 ++
 [[62,
 62,
 62,
 62,
 62,
 62,
 62]]) ∧
 m
 (clashes +
 1)
 (hi +
 1)
 make1
 (out ++
 [[60,
 60,
 60,
 60,
 60,
 60,
 60]] ++
 out_1 ++
 [[61,
 61,
 61,
 61,
 61,
 61,
 61]] ++
 out_2 ++
 [[62,
 62,
 62,
 62,
 62,
 62,
 62]]) <
 m
 clashes
 i
 make1
 out)))))))))) ∧
 (¬i ≤ (↑make1.length : Int) →
 out = (merged base a b).fst ∧
 clashes = (merged base a b).snd.fst ∧ 0 = (merged base a b).snd.snd))) :
 Con Try.prog f_ref_Merged ref_Merged_ct := ⟨ref_Merged_ok.able rfl, fun x hx =>
 con_eq hC (L := [(f_ref_Merged_1, ref_Merged_1_fi)]) (⟨ref_Merged_1_ok, trivial⟩) ref_Merged_ok (ct := ref_Merged_ct) (depth := 4) rfl (by kernel_rfl) x (H (@id (List (List UInt8) × List (List UInt8) × List (List UInt8)) x).1 (@id (List (List UInt8) × List (List UInt8) × List (List UInt8)) x).2.1 (@id (List (List UInt8) × List (List UInt8) × List (List UInt8)) x).2.2 (mpr' hx (by kernel_rfl))) (by kernel_rfl)⟩

theorem law_sameTexts_vc (hC : Cons Try.prog [])
 (H : ∀ (a : List (List UInt8)) (b : List (List UInt8)), (fitL a ∧ fitL b) →
 ((↑a.length : Int) ≠ (↑b.length : Int) → false = bo (a = b)) ∧
 (¬(↑a.length : Int) ≠ (↑b.length : Int) →
 ∃ (I : Int → Prop),
 ∃ (m : Int → Nat),
 I 0 ∧
 ∀ (i : Int),
 I i →
 (i < (↑a.length : Int) →
 0 ≤ i ∧
 i < (↑a.length : Int) ∧
 0 ≤ i ∧
 i < (↑b.length : Int) ∧
 (gt a i ≠ gt b i → false = bo (a = b)) ∧
 (¬gt a i ≠ gt b i → inI64 (i + 1) ∧ I (i + 1) ∧ m (i + 1) < m i)) ∧
 (¬i < (↑a.length : Int) → true = bo (a = b)))) :
 Con Try.prog f_law_sameTexts law_sameTexts_ct := ⟨law_sameTexts_ok.able rfl, fun x hx =>
 con_eq hC (L := []) (trivial) law_sameTexts_ok (ct := law_sameTexts_ct) (depth := 0) rfl (by kernel_rfl) x (H (@id (List (List UInt8) × List (List UInt8)) x).1 (@id (List (List UInt8) × List (List UInt8)) x).2 (mpr' hx (by kernel_rfl))) (by kernel_rfl)⟩

theorem law_MergeMerges_vc (hC : Cons Try.prog [(f_merge_Merge, merge_Merge_ct), (f_ref_Merged, ref_Merged_ct), (f_law_sameTexts, law_sameTexts_ct)])
 (H : ∀ (base : List (List UInt8)) (a : List (List UInt8)) (b : List (List UInt8)), ((base.length ≤ 140737488351232 ∧ ∀ (x : List UInt8), List.Mem x base → x.length.le 140737488351232) ∧
 (a.length ≤ 140737488351232 ∧ ∀ (x : List UInt8), List.Mem x a → x.length.le 140737488351232) ∧
 b.length ≤ 140737488351232 ∧ ∀ (x : List UInt8), List.Mem x b → x.length.le 140737488351232) →
 lsPre [base, a, b] ∧
 lsPre [base, a, b] ∧
 (fitL (merged base a b).fst ∧ fitL (merged base a b).fst) ∧
 bo
 ((bo ((merged base a b).fst = (merged base a b).fst) = true ∧
 (merged base a b).snd.fst = (merged base a b).snd.fst) ∧
 (merged base a b).snd.snd = (merged base a b).snd.snd) =
 true) :
 Con Try.prog f_law_MergeMerges law_MergeMerges_ct := ⟨law_MergeMerges_ok.able rfl, fun x hx =>
 con_eq hC (L := []) (trivial) law_MergeMerges_ok (ct := law_MergeMerges_ct) (depth := 0) rfl (by kernel_rfl) x (H (@id (List (List UInt8) × List (List UInt8) × List (List UInt8)) x).1 (@id (List (List UInt8) × List (List UInt8) × List (List UInt8)) x).2.1 (@id (List (List UInt8) × List (List UInt8) × List (List UInt8)) x).2.2 (mpr' hx (by kernel_rfl))) (by kernel_rfl)⟩

end Go.Proofs.Ytdbgppfoenoijaa
