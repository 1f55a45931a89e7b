/- The typed conditions of the functions, printed by a program of the claim's author; each gives the contract of its function. Conditions: none. -/
import Derived.Test.YtoiebdgnfjgcpaaGSuffixFinds
import Derived.Test.YtoiebdgnfjgcpaaVpA
import Derived.Test.YtoiebdgnfjgcpaaVpB
import Derived.Test.YtoiebdgnfjgcpaaVpY
import Derived.Test.YtoiebdgnfjgcpaaVpZ
import Derived.Test.YtoiebdgnfjgcpaaVpYB
import Derived.Test.YtoiebdgnfjgcpaaVpYC
import Derived.Test.YtoiebdgnfjgcpaaVpYD
import Derived.Test.YtoiebdgnfjgcpaaVpC
import Derived.Test.YtoiebdgnfjgcpaaVpD
import Derived.Test.YtoiebdgnfjgcpaaVpE
import Derived.Test.YtoiebdgnfjgcpaaVpG
import Derived.Test.YtoiebdgnfjgcpaaVpSF
import Derived.Test.YtoiebdgnfjgcpaaVpI
import Derived.Test.YtoiebdgnfjgcpaaVpK
import Derived.Test.YtoiebdgnfjgcpaaLay
import Derived.Test.YtoiebdgnfjgcpaaS2
import Derived.Test.YtoiebdgnfjgcpaaBase
set_option linter.unusedVariables false
set_option linter.unusedSimpArgs false
set_option maxRecDepth 100000
namespace Go.Proofs.Ytoiebdgnfjgcpaa
open Go.Vc Go.Fu

theorem cmp_isNaN_int__vc (hC : Cons Try.prog [])
 (H : ∀ (x : Int), (True) →
 bo (x ≠ x) = false) :
 Con Try.prog f_cmp_isNaN_int_ cmp_isNaN_int__ct := ⟨cmp_isNaN_int__ok.able rfl, fun x hx =>
 con_eq hC (L := []) (trivial) cmp_isNaN_int__ok (ct := cmp_isNaN_int__ct) (depth := 3) rfl (by kernel_rfl) x (H (@id (Int) x) (mpr' hx (by kernel_rfl))) (by kernel_rfl)⟩

theorem cmp_Compare_int__vc (hC : Cons Try.prog [(f_cmp_isNaN_int_, cmp_isNaN_int__ct)])
 (H : ∀ (x : Int) (y : Int), (True) →
 True ∧
 True ∧
 (false = true → (false = true → 0 = cmpI x y) ∧ (¬false = true → -1 = cmpI x y)) ∧
 (¬false = true →
 (false = true → 1 = cmpI x y) ∧
 (¬false = true → (x < y → -1 = cmpI x y) ∧ (¬x < y → (y < x → 1 = cmpI x y) ∧ (¬y < x → 0 = cmpI x y))))) :
 Con Try.prog f_cmp_Compare_int_ cmp_Compare_int__ct := ⟨cmp_Compare_int__ok.able rfl, fun x hx =>
 con_eq hC (L := []) (trivial) cmp_Compare_int__ok (ct := cmp_Compare_int__ct) (depth := 3) rfl (by kernel_rfl) x (H (@id (Int × Int) x).1 (@id (Int × Int) x).2 (mpr' hx (by kernel_rfl))) (by kernel_rfl)⟩

theorem cmp_Or_int__vc (hC : Cons Try.prog [])
 (H : ∀ (l : List Int), (fitL l) →
 ∃ (I : Int → Prop),
 ∃ (m : Int → Nat),
 I 0 ∧
 ∀ (x : Int),
 I x →
 (x < (↑l.length : Int) →
 0 ≤ x ∧
 x < (↑l.length : Int) ∧
 (gt l x ≠ 0 → gt l x = orL l) ∧ (¬gt l x ≠ 0 → inI64 (x + 1) ∧ I (x + 1) ∧ m (x + 1) < m x)) ∧
 (¬x < (↑l.length : Int) → 0 = orL l)) :
 Con Try.prog f_cmp_Or_int_ cmp_Or_int__ct := ⟨cmp_Or_int__ok.able rfl, fun x hx =>
 con_eq hC (L := []) (trivial) cmp_Or_int__ok (ct := cmp_Or_int__ct) (depth := 3) rfl (by kernel_rfl) x (H (@id (List Int) x) (mpr' hx (by kernel_rfl))) (by kernel_rfl)⟩

theorem suffix_sorted_2_vc (hC : Cons Try.prog [(f_cmp_Compare_int_, cmp_Compare_int__ct), (f_cmp_Or_int_, cmp_Or_int__ct)])
 (H : ∀ (rank : List Int) (w : Int) (n : Int) (rank2 : List Int) (a : Int) (b : Int), (byPre (rank, w, n, rank2) a b) →
 0 ≤ a ∧
 a < (↑rank.length : Int) ∧
 0 ≤ b ∧
 b < (↑rank.length : Int) ∧
 True ∧
 w = w ∧
 n = n ∧
 rank2 = rank2 ∧
 w = w ∧
 n = n ∧
 rank2 = rank2 ∧
 inI64 (a + w) ∧
 (a + w < n →
 inI64 (a + w) ∧
 0 ≤ a + w ∧
 a + w < (↑rank2.length : Int) ∧
 w = w ∧
 n = n ∧
 rank2 = rank2 ∧
 inI64 (b + w) ∧
 (b + w < n →
 inI64 (b + w) ∧
 0 ≤ b + w ∧
 b + w < (↑rank2.length : Int) ∧
 True ∧
 fitL
 [cmpI (gt rank a) (gt rank b),
 cmpI (gt rank2 (a + w)) (gt rank2 (b + w))] ∧
 orL
 [cmpI (gt rank a) (gt rank b),
 cmpI (gt rank2 (a + w)) (gt rank2 (b + w))] =
 byFn (rank, w, n, rank2) a b) ∧
 (¬b + w < n →
 True ∧
 fitL [cmpI (gt rank a) (gt rank b), cmpI (gt rank2 (a + w)) (-1)] ∧
 orL [cmpI (gt rank a) (gt rank b), cmpI (gt rank2 (a + w)) (-1)] =
 byFn (rank, w, n, rank2) a b)) ∧
 (¬a + w < n →
 w = w ∧
 n = n ∧
 rank2 = rank2 ∧
 inI64 (b + w) ∧
 (b + w < n →
 inI64 (b + w) ∧
 0 ≤ b + w ∧
 b + w < (↑rank2.length : Int) ∧
 True ∧
 fitL [cmpI (gt rank a) (gt rank b), cmpI (-1) (gt rank2 (b + w))] ∧
 orL [cmpI (gt rank a) (gt rank b), cmpI (-1) (gt rank2 (b + w))] =
 byFn (rank, w, n, rank2) a b) ∧
 (¬b + w < n →
 True ∧
 fitL [cmpI (gt rank a) (gt rank b), cmpI (-1) (-1)] ∧
 orL [cmpI (gt rank a) (gt rank b), cmpI (-1) (-1)] =
 byFn (rank, w, n, rank2) a b))) :
 ConR Try.prog f_suffix_sorted_2 suffix_sorted_2_cr := ⟨suffix_sorted_2_ok.able rfl, suffix_sorted_2_cr_dec, fun k x hx ys hy =>
 conR_eq hC (L := [(f_suffix_sorted_1, suffix_sorted_1_fi)]) (⟨suffix_sorted_1_ok, trivial⟩) suffix_sorted_2_ok (c := suffix_sorted_2_cr) (depth := 4) rfl (m := 2) (fun _ => rfl) (by kernel_rfl) k x (H (@id (List Int × Int × Int × List Int) k).1 (@id (List Int × Int × Int × List Int) k).2.1 (@id (List Int × Int × Int × List Int) k).2.2.1 (@id (List Int × Int × Int × List Int) k).2.2.2 (@id (Int × Int) x).1 (@id (Int × Int) x).2 (mpr' hx (by kernel_rfl))) (by kernel_rfl) ys hy⟩

theorem suffix_sorted_vc (hC : Cons Try.prog []) (hU_slices_SortFunc___int_int_ : FiOk Try.prog f_slices_SortFunc___int_int_ (sortFi suffix_by_cq)) (hU_suffix_sorted_2 : ConR Try.prog f_suffix_sorted_2 suffix_sorted_2_cr)
 (H : ∀ (text : List UInt8), (text.length ≤ 600) →
 (↑text.length : Int) = (↑text.length : Int) ∧
 0 ≤ (↑text.length : Int) ∧
 8 * (↑text.length : Int).toNat ≤ 140737488355328 ∧
 (↑text.length : Int) = (↑text.length : Int) ∧
 0 ≤ (↑text.length : Int) ∧
 8 * (↑text.length : Int).toNat ≤ 140737488355328 ∧
 ∃ (I : Int → List Int → List Int → Prop),
 ∃ (m : Int → List Int → List Int → Nat),
 ((↑text.length : Int) = (↑text.length : Int) ∧
 I 0 (List.replicate (↑text.length : Int).toNat 0) (List.replicate (↑text.length : Int).toNat 0)) ∧
 ∀ (x : Int) (out rank : List Int),
 I x out rank →
 (x < (↑text.length : Int) →
 0 ≤ x ∧
 x < (↑text.length : Int) ∧
 0 ≤ x ∧
 x < (↑out.length : Int) ∧
 0 ≤ x ∧
 x < (↑rank.length : Int) ∧
 inI64 (x + 1) ∧
 (↑text.length : Int) = (↑text.length : Int) ∧
 I (x + 1) (out.set x.toNat x) (rank.set x.toNat (↑(gt text x).toNat : Int)) ∧
 m (x + 1) (out.set x.toNat x)
 (rank.set x.toNat (↑(gt text x).toNat : Int)) <
 m x out rank) ∧
 (¬x < (↑text.length : Int) →
 ∃ (I : List Int → List Int → Int → Prop),
 ∃ (m : List Int → List Int → Int → Nat),
 ((↑text.length : Int) = (↑text.length : Int) ∧ I out rank 1) ∧
 ∀ (out rank : List Int) (wide : Int),
 I out rank wide →
 (out.length < 4611686018427387904 ∧
 (∀ (x : Int),
 x ∈ out →
 ∀ (y : Int),
 y ∈ out → byPre (rank, wide, (↑text.length : Int), rank) x y) ∧
 SortOk (byFn (rank, wide, (↑text.length : Int), rank)) out) ∧
 (↑text.length : Int) = (↑text.length : Int) ∧
 0 ≤ (↑text.length : Int) ∧
 8 * (↑text.length : Int).toNat ≤ 140737488355328 ∧
 ∃ (I_1 : Int → List Int → Prop),
 ∃ (m_1 : Int → List Int → Nat),
 ((↑text.length : Int) = (↑text.length : Int) ∧
 pdqL (byFn (rank, wide, (↑text.length : Int), rank)) out =
 pdqL (byFn (rank, wide, (↑text.length : Int), rank)) out ∧
 rank = rank ∧
 wide = wide ∧
 I_1 1 (List.replicate (↑text.length : Int).toNat 0)) ∧
 ∀ (i : Int) (next : List Int),
 I_1 i next →
 (i < (↑text.length : Int) →
 0 ≤ i ∧
 i <
 (↑(pdqL (byFn (rank, wide, (↑text.length : Int), rank))
 out).length :
 Int) ∧
 inI64 (i - 1) ∧
 0 ≤ i - 1 ∧
 i - 1 <
 (↑(pdqL
 (byFn
 (rank, wide, (↑text.length : Int),
 rank))
 out).length :
 Int) ∧
 0 ≤
 gt
 (pdqL
 (byFn
 (rank, wide, (↑text.length : Int), rank))
 out)
 (i - 1) ∧
 gt
 (pdqL
 (byFn
 (rank, wide, (↑text.length : Int),
 rank))
 out)
 (i - 1) <
 (↑next.length : Int) ∧
 0 ≤
 gt
 (pdqL
 (byFn
 (rank, wide, (↑text.length : Int),
 rank))
 out)
 i ∧
 gt
 (pdqL
 (byFn
 (rank, wide, (↑text.length : Int),
 rank))
 out)
 i <
 (↑next.length : Int) ∧
 inI64 (i - 1) ∧
 0 ≤ i - 1 ∧
 i - 1 <
 (↑(pdqL
 (byFn
 (rank, wide,
 (↑text.length : Int),
 rank))
 out).length :
 Int) ∧
 0 ≤ i ∧
 i <
 (↑(pdqL
 (byFn
 (rank, wide,
 (↑text.length :
 Int),
 rank))
 out).length :
 Int) ∧
 byPre
 (rank, wide,
 (↑text.length : Int), rank)
 (gt
 (pdqL
 (byFn
 (rank, wide,
 (↑text.length : Int),
 rank))
 out)
 (i - 1))
 (gt
 (pdqL
 (byFn
 (rank, wide,
 (↑text.length : Int),
 rank))
 out)
 i) ∧
 (byFn
 (rank, wide,
 (↑text.length : Int),
 rank)
 (gt
 (pdqL
 (byFn
 (rank, wide,
 (↑text.length :
 Int),
 rank))
 out)
 (i - 1))
 (gt
 (pdqL
 (byFn
 (rank, wide,
 (↑text.length :
 Int),
 rank))
 out)
 i) ≠
 0 →
 0 ≤ i ∧
 i <
 (↑(pdqL
 (byFn
 (rank, wide,
 (↑text.length :
 Int),
 rank))
 out).length :
 Int) ∧
 0 ≤
 gt
 (pdqL
 (byFn
 (rank, wide,
 (↑text.length :
 Int),
 rank))
 out)
 i ∧
 gt
 (pdqL
 (byFn
 (rank, wide,
 (↑text.length :
 Int),
 rank))
 out)
 i <
 (↑(next.set
 (gt
 (pdqL
 (byFn
 (rank,
 wide,
 (↑text.length :
 Int),
 rank))
 out)
 i).toNat
 (gt next
 (gt
 (pdqL
 (byFn
 (rank,
 wide,
 (↑text.length :
 Int),
 rank))
 out)
 (i -
 1)))).length :
 Int) ∧
 inI64
 (gt
 (next.set
 (gt
 (pdqL
 (byFn
 (rank,
 wide,
 (↑text.length :
 Int),
 rank))
 out)
 i).toNat
 (gt next
 (gt
 (pdqL
 (byFn
 (rank,
 wide,
 (↑text.length :
 Int),
 rank))
 out)
 (i -
 1))))
 (gt
 (pdqL
 (byFn
 (rank,
 wide,
 (↑text.length :
 Int),
 rank))
 out)
 i) +
 1) ∧
 0 ≤
 gt
 (pdqL
 (byFn
 (rank,
 wide,
 (↑text.length :
 Int),
 rank))
 out)
 i ∧
 gt
 (pdqL
 (byFn
 (rank,
 wide,
 (↑text.length :
 Int),
 rank))
 out)
 i <
 (↑(next.set
 (gt
 (pdqL
 (byFn
 (rank,
 wide,
 (↑text.length :
 Int),
 rank))
 out)
 i).toNat
 (gt
 next
 (gt
 (pdqL
 (byFn
 (rank,
 wide,
 (↑text.length :
 Int),
 rank))
 out)
 (i -
 1)))).length :
 Int) ∧
 inI64
 (i + 1) ∧
 (↑text.length :
 Int) =
 (↑text.length :
 Int) ∧
 pdqL
 (byFn
 (rank,
 wide,
 (↑text.length :
 Int),
 rank))
 out =
 pdqL
 (byFn
 (rank,
 wide,
 (↑text.length :
 Int),
 rank))
 out ∧
 rank =
 rank ∧
 wide =
 wide ∧
 I_1
 (i +
 1)
 ((next.set
 (gt
 (pdqL
 (byFn
 (rank,
 wide,
 (↑text.length :
 Int),
 rank))
 out)
 i).toNat
 (gt
 next
 (gt
 (pdqL
 (byFn
 (rank,
 wide,
 (↑text.length :
 Int),
 rank))
 out)
 (i -
 1)))).set
 (gt
 (pdqL
 (byFn
 (rank,
 wide,
 (↑text.length :
 Int),
 rank))
 out)
 i).toNat
 (gt
 (next.set
 (gt
 (pdqL
 (byFn
 (rank,
 wide,
 (↑text.length :
 Int),
 rank))
 out)
 i).toNat
 (gt
 next
 (gt
 (pdqL
 (byFn
 (rank,
 wide,
 (↑text.length :
 Int),
 rank))
 out)
 (i -
 1))))
 (gt
 (pdqL
 (byFn
 (rank,
 wide,
 (↑text.length :
 Int),
 rank))
 out)
 i) +
 1)) ∧
 m_1
 (i +
 1)
 ((next.set
 (gt
 (pdqL
 (byFn
 (rank,
 wide,
 (↑text.length :
 Int),
 rank))
 out)
 i).toNat
 (gt
 next
 (gt
 (pdqL
 (byFn
 (rank,
 wide,
 (↑text.length :
 Int),
 rank))
 out)
 (i -
 1)))).set
 (gt
 (pdqL
 (byFn
 (rank,
 wide,
 (↑text.length :
 Int),
 rank))
 out)
 i).toNat
 (gt
 (next.set
 (gt
 (pdqL
 (byFn
 (rank,
 wide,
 (↑text.length :
 Int),
 rank))
 out)
 i).toNat
 (gt
 next
 (gt
 (pdqL
 (byFn
 (rank,
 wide,
 (↑text.length :
 Int),
 rank))
 out)
 (i -
 1))))
 (gt
 (pdqL
 (byFn
 (rank,
 wide,
 (↑text.length :
 Int),
 rank))
 out)
 i) +
 1)) <
 m_1
 i
 next) ∧
 (¬byFn
 (rank, wide,
 (↑text.length :
 Int),
 rank)
 (gt
 (pdqL
 (byFn
 (rank, wide,
 (↑text.length :
 Int),
 rank))
 out)
 (i - 1))
 (gt
 (pdqL
 (byFn
 (rank, wide,
 (↑text.length :
 Int),
 rank))
 out)
 i) ≠
 0 →
 inI64 (i + 1) ∧
 (↑text.length : Int) =
 (↑text.length : Int) ∧
 pdqL
 (byFn
 (rank, wide,
 (↑text.length :
 Int),
 rank))
 out =
 pdqL
 (byFn
 (rank, wide,
 (↑text.length :
 Int),
 rank))
 out ∧
 rank = rank ∧
 wide = wide ∧
 I_1 (i + 1)
 (next.set
 (gt
 (pdqL
 (byFn
 (rank,
 wide,
 (↑text.length :
 Int),
 rank))
 out)
 i).toNat
 (gt next
 (gt
 (pdqL
 (byFn
 (rank,
 wide,
 (↑text.length :
 Int),
 rank))
 out)
 (i -
 1)))) ∧
 m_1 (i + 1)
 (next.set
 (gt
 (pdqL
 (byFn
 (rank,
 wide,
 (↑text.length :
 Int),
 rank))
 out)
 i).toNat
 (gt next
 (gt
 (pdqL
 (byFn
 (rank,
 wide,
 (↑text.length :
 Int),
 rank))
 out)
 (i -
 1)))) <
 m_1 i next)) ∧
 (¬i < (↑text.length : Int) →
 (¬(↑text.length : Int) = 0 →
 inI64 ((↑text.length : Int) - 1)) ∧
 (¬(↑text.length : Int) = 0 → 0 ≤ (↑text.length : Int) - 1) ∧
 (¬(↑text.length : Int) = 0 →
 (↑text.length : Int) - 1 <
 (↑(pdqL
 (byFn
 (rank, wide, (↑text.length : Int), rank))
 out).length :
 Int)) ∧
 (¬(↑text.length : Int) = 0 →
 0 ≤
 gt
 (pdqL
 (byFn
 (rank, wide, (↑text.length : Int), rank))
 out)
 ((↑text.length : Int) - 1)) ∧
 (¬(↑text.length : Int) = 0 →
 gt
 (pdqL
 (byFn
 (rank, wide, (↑text.length : Int), rank))
 out)
 ((↑text.length : Int) - 1) <
 (↑next.length : Int)) ∧
 (¬(↑text.length : Int) = 0 →
 inI64 ((↑text.length : Int) - 1)) ∧
 ((↑text.length : Int) = 0 ∨
 gt next
 (gt
 (pdqL
 (byFn
 (rank, wide, (↑text.length : Int),
 rank))
 out)
 ((↑text.length : Int) - 1)) =
 (↑text.length : Int) - 1 →
 pdqL
 (byFn
 (rank, wide, (↑text.length : Int),
 rank))
 out =
 saOf text) ∧
 (¬((↑text.length : Int) = 0 ∨
 gt next
 (gt
 (pdqL
 (byFn
 (rank, wide,
 (↑text.length : Int), rank))
 out)
 ((↑text.length : Int) - 1)) =
 (↑text.length : Int) - 1) →
 inI64 (wide * 2) ∧
 (↑text.length : Int) =
 (↑text.length : Int) ∧
 I
 (pdqL
 (byFn
 (rank, wide, (↑text.length : Int),
 rank))
 out)
 next (wide * 2) ∧
 m
 (pdqL
 (byFn
 (rank, wide,
 (↑text.length : Int), rank))
 out)
 next (wide * 2) <
 m out rank wide)))) :
 Con Try.prog f_suffix_sorted suffix_sorted_ct := ⟨suffix_sorted_ok.able rfl, fun x hx =>
 con_eq hC (L := [(f_slices_SortFunc___int_int_, sortFi suffix_by_cq), (f_suffix_sorted_2, crFi suffix_sorted_2_cr)]) (⟨hU_slices_SortFunc___int_int_, cr_fok hU_suffix_sorted_2, trivial⟩) suffix_sorted_ok (ct := suffix_sorted_ct) (depth := 5) rfl (by kernel_rfl) x (H (@id (List UInt8) x) (mpr' hx (by kernel_rfl))) (by kernel_rfl)⟩

theorem ref_findFault_vc (hC : Cons Try.prog [])
 (H : ∀ (text : List UInt8) (find : List UInt8), (True) →
 (600 < (↑text.length : Int) ∨ 20 < (↑find.length : Int) → 1 = findFault text find) ∧
 (¬(600 < (↑text.length : Int) ∨ 20 < (↑find.length : Int)) →
 (find = [] → 4 = findFault text find) ∧ (¬find = [] → 0 = findFault text find))) :
 Con Try.prog f_ref_findFault ref_findFault_ct := ⟨ref_findFault_ok.able rfl, fun x hx =>
 con_eq hC (L := []) (trivial) ref_findFault_ok (ct := ref_findFault_ct) (depth := 0) rfl (by kernel_rfl) x (H (@id (List UInt8 × List UInt8) x).1 (@id (List UInt8 × List UInt8) x).2 (mpr' hx (by kernel_rfl))) (by kernel_rfl)⟩

theorem ref_standsAt_vc (hC : Cons Try.prog [])
 (H : ∀ (text : List UInt8) (find : List UInt8) (at_ : Int), (fitS text ∧ fitS find ∧ standPre at_) →
 (0 ≤ at_ → inI64 (at_ + (↑find.length : Int))) ∧
 (0 ≤ at_ ∧ at_ + (↑find.length : Int) ≤ (↑text.length : Int) → inI64 (at_ + (↑find.length : Int))) ∧
 (0 ≤ at_ ∧ at_ + (↑find.length : Int) ≤ (↑text.length : Int) → 0 ≤ at_) ∧
 (0 ≤ at_ ∧ at_ + (↑find.length : Int) ≤ (↑text.length : Int) → at_ ≤ at_ + (↑find.length : Int)) ∧
 (0 ≤ at_ ∧ at_ + (↑find.length : Int) ≤ (↑text.length : Int) →
 at_ + (↑find.length : Int) ≤ (↑text.length : Int)) ∧
 bo
 ((0 ≤ at_ ∧ at_ + (↑find.length : Int) ≤ (↑text.length : Int)) ∧
 List.drop at_.toNat (List.take (at_ + (↑find.length : Int)).toNat text) = find) =
 bo (stands text find at_)) :
 Con Try.prog f_ref_standsAt ref_standsAt_ct := ⟨ref_standsAt_ok.able rfl, fun x hx =>
 con_eq hC (L := []) (trivial) ref_standsAt_ok (ct := ref_standsAt_ct) (depth := 0) rfl (by kernel_rfl) x (H (@id (List UInt8 × List UInt8 × Int) x).1 (@id (List UInt8 × List UInt8 × Int) x).2.1 (@id (List UInt8 × List UInt8 × Int) x).2.2 (mpr' hx (by kernel_rfl))) (by kernel_rfl)⟩

theorem ref_FindAll_vc (hC : Cons Try.prog [(f_ref_findFault, ref_findFault_ct), (f_ref_standsAt, ref_standsAt_ct)])
 (H : ∀ (text : List UInt8) (find : List UInt8), (True) →
 True ∧
 (findFault text find ≠ 0 → [] = (findAll text find).fst ∧ findFault text find = (findAll text find).snd) ∧
 (¬findFault text find ≠ 0 →
 ∃ (I : Int → List Int → Prop),
 ∃ (m : Int → List Int → Nat),
 I 0 [] ∧
 ∀ (x : Int) (out : List Int),
 I x out →
 (x < (↑text.length : Int) →
 (fitS text ∧ fitS find ∧ standPre x) ∧
 (bo (stands text find x) = true →
 (out.length + 1) * 8 ≤ 140737488355328 ∧
 inI64 (x + 1) ∧ I (x + 1) (out ++ [x]) ∧ m (x + 1) (out ++ [x]) < m x out) ∧
 (¬bo (stands text find x) = true → inI64 (x + 1) ∧ I (x + 1) out ∧ m (x + 1) out < m x out)) ∧
 (¬x < (↑text.length : Int) → out = (findAll text find).fst ∧ 0 = (findAll text find).snd))) :
 Con Try.prog f_ref_FindAll ref_FindAll_ct := ⟨ref_FindAll_ok.able rfl, fun x hx =>
 con_eq hC (L := []) (trivial) ref_FindAll_ok (ct := ref_FindAll_ct) (depth := 0) rfl (by kernel_rfl) x (H (@id (List UInt8 × List UInt8) x).1 (@id (List UInt8 × List UInt8) x).2 (mpr' hx (by kernel_rfl))) (by kernel_rfl)⟩

theorem law_sameInts_vc (hC : Cons Try.prog [])
 (H : ∀ (a : List Int) (b : List Int), (fitL a ∧ fitL b) →
 ((↑a.length : Int) ≠ (↑b.length : Int) → false = bo (a = b)) ∧
 (¬(↑a.length : Int) ≠ (↑b.length : Int) →
 ∃ (I : Int → Prop),
 ∃ (m : Int → Nat),
 I 0 ∧
 ∀ (i : Int),
 I i →
 (i < (↑a.length : Int) →
 0 ≤ i ∧
 i < (↑a.length : Int) ∧
 0 ≤ i ∧
 i < (↑b.length : Int) ∧
 (gt a i ≠ gt b i → false = bo (a = b)) ∧
 (¬gt a i ≠ gt b i → inI64 (i + 1) ∧ I (i + 1) ∧ m (i + 1) < m i)) ∧
 (¬i < (↑a.length : Int) → true = bo (a = b)))) :
 Con Try.prog f_law_sameInts law_sameInts_ct := ⟨law_sameInts_ok.able rfl, fun x hx =>
 con_eq hC (L := []) (trivial) law_sameInts_ok (ct := law_sameInts_ct) (depth := 0) rfl (by kernel_rfl) x (H (@id (List Int × List Int) x).1 (@id (List Int × List Int) x).2 (mpr' hx (by kernel_rfl))) (by kernel_rfl)⟩

theorem law_SuffixFinds_vc (hC : Cons Try.prog [(f_suffix_Find, suffix_Find_ct), (f_ref_FindAll, ref_FindAll_ct), (f_law_sameInts, law_sameInts_ct)])
 (H : ∀ (text : List UInt8) (s : List UInt8), (text.length.le 140737488351232 ∧ s.length.le 140737488351232) →
 True ∧
 True ∧
 (fitL (findAll text s).fst ∧ fitL (findAll text s).fst) ∧
 bo (bo ((findAll text s).fst = (findAll text s).fst) = true ∧ (findAll text s).snd = (findAll text s).snd) = true) :
 Con Try.prog f_law_SuffixFinds law_SuffixFinds_ct := ⟨law_SuffixFinds_ok.able rfl, fun x hx =>
 con_eq hC (L := []) (trivial) law_SuffixFinds_ok (ct := law_SuffixFinds_ct) (depth := 0) rfl (by kernel_rfl) x (H (@id (List UInt8 × List UInt8) x).1 (@id (List UInt8 × List UInt8) x).2 (mpr' hx (by kernel_rfl))) (by kernel_rfl)⟩

end Go.Proofs.Ytoiebdgnfjgcpaa
