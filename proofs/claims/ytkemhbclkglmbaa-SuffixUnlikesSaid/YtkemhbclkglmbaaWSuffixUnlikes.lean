/- The typed conditions of the functions, printed by a program of the claim's author; each gives the contract of its function. Conditions: none. -/
import Derived.Test.YtkemhbclkglmbaaGSuffixUnlikes
import Derived.Test.YtkemhbclkglmbaaVpA
import Derived.Test.YtkemhbclkglmbaaVpB
import Derived.Test.YtkemhbclkglmbaaVpY
import Derived.Test.YtkemhbclkglmbaaVpYB
import Derived.Test.YtkemhbclkglmbaaVpYC
import Derived.Test.YtkemhbclkglmbaaVpZ
import Derived.Test.YtkemhbclkglmbaaVpYD
import Derived.Test.YtkemhbclkglmbaaLay
import Derived.Test.YtkemhbclkglmbaaEnds
import Derived.Test.YtkemhbclkglmbaaBase
set_option linter.unusedVariables false
set_option linter.unusedSimpArgs false
set_option maxRecDepth 100000
namespace Go.Proofs.Ytkemhbclkglmbaa
open Go.Vc Go.Fu

theorem suffix_fault_vc (hC : Cons Try.prog [])
 (H : ∀ (s : List UInt8), (fitS s) →
 (600 < (↑s.length : Int) → 1 = suffixFault s) ∧ (¬600 < (↑s.length : Int) → 0 = suffixFault s)) :
 Con Try.prog f_suffix_fault suffix_fault_ct := ⟨suffix_fault_ok.able, fun x hx =>
 con_eq hC (L := []) (trivial) suffix_fault_ok (ct := suffix_fault_ct) (depth := 3) rfl (by kernel_rfl) x (H (@id (List UInt8) x) (mpr' hx (by kernel_rfl))) (by kernel_rfl)⟩

theorem cmp_isNaN_int__vc (hC : Cons Try.prog [])
 (H : ∀ (x : Int), (True) →
 bo (x ≠ x) = false) :
 Con Try.prog f_cmp_isNaN_int_ cmp_isNaN_int__ct := ⟨cmp_isNaN_int__ok.able, fun x hx =>
 con_eq hC (L := []) (trivial) cmp_isNaN_int__ok (ct := cmp_isNaN_int__ct) (depth := 3) rfl (by kernel_rfl) x (H (@id (Int) x) (mpr' hx (by kernel_rfl))) (by kernel_rfl)⟩

theorem cmp_Compare_int__vc (hC : Cons Try.prog [(f_cmp_isNaN_int_, cmp_isNaN_int__ct)])
 (H : ∀ (x : Int) (y : Int), (True) →
 True ∧
 True ∧
 (false = true → (false = true → 0 = cmpI x y) ∧ (¬false = true → -1 = cmpI x y)) ∧
 (¬false = true →
 (false = true → 1 = cmpI x y) ∧
 (¬false = true → (x < y → -1 = cmpI x y) ∧ (¬x < y → (y < x → 1 = cmpI x y) ∧ (¬y < x → 0 = cmpI x y))))) :
 Con Try.prog f_cmp_Compare_int_ cmp_Compare_int__ct := ⟨cmp_Compare_int__ok.able, fun x hx =>
 con_eq hC (L := []) (trivial) cmp_Compare_int__ok (ct := cmp_Compare_int__ct) (depth := 3) rfl (by kernel_rfl) x (H (@id (Int × Int) x).1 (@id (Int × Int) x).2 (mpr' hx (by kernel_rfl))) (by kernel_rfl)⟩

theorem cmp_Or_int__vc (hC : Cons Try.prog [])
 (H : ∀ (l : List Int), (fitL l) →
 ∃ (I : Int → Prop),
 ∃ (m : Int → Nat),
 I 0 ∧
 ∀ (x : Int),
 I x →
 (x < (↑l.length : Int) →
 0 ≤ x ∧
 x < (↑l.length : Int) ∧
 (gt l x ≠ 0 → gt l x = orL l) ∧ (¬gt l x ≠ 0 → inI64 (x + 1) ∧ I (x + 1) ∧ m (x + 1) < m x)) ∧
 (¬x < (↑l.length : Int) → 0 = orL l)) :
 Con Try.prog f_cmp_Or_int_ cmp_Or_int__ct := ⟨cmp_Or_int__ok.able, fun x hx =>
 con_eq hC (L := []) (trivial) cmp_Or_int__ok (ct := cmp_Or_int__ct) (depth := 3) rfl (by kernel_rfl) x (H (@id (List Int) x) (mpr' hx (by kernel_rfl))) (by kernel_rfl)⟩

theorem suffix_sorted_2_vc (hC : Cons Try.prog [(f_cmp_Compare_int_, cmp_Compare_int__ct), (f_cmp_Or_int_, cmp_Or_int__ct)])
 (H : ∀ (rank : List Int) (w : Int) (n : Int) (rank2 : List Int) (a : Int) (b : Int), (byPre (rank, w, n, rank2) a b) →
 0 ≤ a ∧
 a < (↑rank.length : Int) ∧
 0 ≤ b ∧
 b < (↑rank.length : Int) ∧
 True ∧
 w = w ∧
 n = n ∧
 rank2 = rank2 ∧
 w = w ∧
 n = n ∧
 rank2 = rank2 ∧
 inI64 (a + w) ∧
 (a + w < n →
 inI64 (a + w) ∧
 0 ≤ a + w ∧
 a + w < (↑rank2.length : Int) ∧
 w = w ∧
 n = n ∧
 rank2 = rank2 ∧
 inI64 (b + w) ∧
 (b + w < n →
 inI64 (b + w) ∧
 0 ≤ b + w ∧
 b + w < (↑rank2.length : Int) ∧
 True ∧
 fitL
 [cmpI (gt rank a) (gt rank b),
 cmpI (gt rank2 (a + w)) (gt rank2 (b + w))] ∧
 orL
 [cmpI (gt rank a) (gt rank b),
 cmpI (gt rank2 (a + w)) (gt rank2 (b + w))] =
 byFn (rank, w, n, rank2) a b) ∧
 (¬b + w < n →
 True ∧
 fitL [cmpI (gt rank a) (gt rank b), cmpI (gt rank2 (a + w)) (-1)] ∧
 orL [cmpI (gt rank a) (gt rank b), cmpI (gt rank2 (a + w)) (-1)] =
 byFn (rank, w, n, rank2) a b)) ∧
 (¬a + w < n →
 w = w ∧
 n = n ∧
 rank2 = rank2 ∧
 inI64 (b + w) ∧
 (b + w < n →
 inI64 (b + w) ∧
 0 ≤ b + w ∧
 b + w < (↑rank2.length : Int) ∧
 True ∧
 fitL [cmpI (gt rank a) (gt rank b), cmpI (-1) (gt rank2 (b + w))] ∧
 orL [cmpI (gt rank a) (gt rank b), cmpI (-1) (gt rank2 (b + w))] =
 byFn (rank, w, n, rank2) a b) ∧
 (¬b + w < n →
 True ∧
 fitL [cmpI (gt rank a) (gt rank b), cmpI (-1) (-1)] ∧
 orL [cmpI (gt rank a) (gt rank b), cmpI (-1) (-1)] =
 byFn (rank, w, n, rank2) a b))) :
 ConR Try.prog f_suffix_sorted_2 suffix_sorted_2_cr := ⟨suffix_sorted_2_ok.able, suffix_sorted_2_cr_dec, fun k x hx ys hy =>
 conR_eq hC (L := [(f_suffix_sorted_1, suffix_sorted_1_fi)]) (⟨suffix_sorted_1_ok, trivial⟩) suffix_sorted_2_ok (c := suffix_sorted_2_cr) (depth := 4) rfl (m := 2) (fun _ => rfl) (by kernel_rfl) k x (H (@id (List Int × Int × Int × List Int) k).1 (@id (List Int × Int × Int × List Int) k).2.1 (@id (List Int × Int × Int × List Int) k).2.2.1 (@id (List Int × Int × Int × List Int) k).2.2.2 (@id (Int × Int) x).1 (@id (Int × Int) x).2 (mpr' hx (by kernel_rfl))) (by kernel_rfl) ys hy⟩

theorem suffix_sorted_vc (hC : Cons Try.prog []) (hU_slices_SortFunc___int_int_ : FiOk Try.prog f_slices_SortFunc___int_int_ (sortFi suffix_by_cq)) (hU_suffix_sorted_2 : ConR Try.prog f_suffix_sorted_2 suffix_sorted_2_cr)
 (H : ∀ (text : List UInt8), (text.length ≤ 600) →
 (↑text.length : Int) = (↑text.length : Int) ∧
 0 ≤ (↑text.length : Int) ∧
 8 * (↑text.length : Int).toNat ≤ 140737488355328 ∧
 (↑text.length : Int) = (↑text.length : Int) ∧
 0 ≤ (↑text.length : Int) ∧
 8 * (↑text.length : Int).toNat ≤ 140737488355328 ∧
 ∃ (I : Int → List Int → List Int → Prop),
 ∃ (m : Int → List Int → List Int → Nat),
 ((↑text.length : Int) = (↑text.length : Int) ∧
 I 0 (List.replicate (↑text.length : Int).toNat 0) (List.replicate (↑text.length : Int).toNat 0)) ∧
 ∀ (x : Int) (out rank : List Int),
 I x out rank →
 (x < (↑text.length : Int) →
 0 ≤ x ∧
 x < (↑text.length : Int) ∧
 0 ≤ x ∧
 x < (↑out.length : Int) ∧
 0 ≤ x ∧
 x < (↑rank.length : Int) ∧
 inI64 (x + 1) ∧
 (↑text.length : Int) = (↑text.length : Int) ∧
 I (x + 1) (out.set x.toNat x) (rank.set x.toNat (↑(gt text x).toNat : Int)) ∧
 m (x + 1) (out.set x.toNat x)
 (rank.set x.toNat (↑(gt text x).toNat : Int)) <
 m x out rank) ∧
 (¬x < (↑text.length : Int) →
 ∃ (I : List Int → List Int → Int → Prop),
 ∃ (m : List Int → List Int → Int → Nat),
 ((↑text.length : Int) = (↑text.length : Int) ∧ I out rank 1) ∧
 ∀ (out rank : List Int) (wide : Int),
 I out rank wide →
 (out.length < 4611686018427387904 ∧
 (∀ (x : Int),
 x ∈ out →
 ∀ (y : Int),
 y ∈ out → byPre (rank, wide, (↑text.length : Int), rank) x y) ∧
 SortOk (byFn (rank, wide, (↑text.length : Int), rank)) out) ∧
 (↑text.length : Int) = (↑text.length : Int) ∧
 0 ≤ (↑text.length : Int) ∧
 8 * (↑text.length : Int).toNat ≤ 140737488355328 ∧
 ∃ (I_1 : Int → List Int → Prop),
 ∃ (m_1 : Int → List Int → Nat),
 ((↑text.length : Int) = (↑text.length : Int) ∧
 pdqL (byFn (rank, wide, (↑text.length : Int), rank)) out =
 pdqL (byFn (rank, wide, (↑text.length : Int), rank)) out ∧
 rank = rank ∧
 wide = wide ∧
 I_1 1 (List.replicate (↑text.length : Int).toNat 0)) ∧
 ∀ (i : Int) (next : List Int),
 I_1 i next →
 (i < (↑text.length : Int) →
 0 ≤ i ∧
 i <
 (↑(pdqL (byFn (rank, wide, (↑text.length : Int), rank))
 out).length :
 Int) ∧
 inI64 (i - 1) ∧
 0 ≤ i - 1 ∧
 i - 1 <
 (↑(pdqL
 (byFn
 (rank, wide, (↑text.length : Int),
 rank))
 out).length :
 Int) ∧
 0 ≤
 gt
 (pdqL
 (byFn
 (rank, wide, (↑text.length : Int), rank))
 out)
 (i - 1) ∧
 gt
 (pdqL
 (byFn
 (rank, wide, (↑text.length : Int),
 rank))
 out)
 (i - 1) <
 (↑next.length : Int) ∧
 0 ≤
 gt
 (pdqL
 (byFn
 (rank, wide, (↑text.length : Int),
 rank))
 out)
 i ∧
 gt
 (pdqL
 (byFn
 (rank, wide, (↑text.length : Int),
 rank))
 out)
 i <
 (↑next.length : Int) ∧
 inI64 (i - 1) ∧
 0 ≤ i - 1 ∧
 i - 1 <
 (↑(pdqL
 (byFn
 (rank, wide,
 (↑text.length : Int),
 rank))
 out).length :
 Int) ∧
 0 ≤ i ∧
 i <
 (↑(pdqL
 (byFn
 (rank, wide,
 (↑text.length :
 Int),
 rank))
 out).length :
 Int) ∧
 byPre
 (rank, wide,
 (↑text.length : Int), rank)
 (gt
 (pdqL
 (byFn
 (rank, wide,
 (↑text.length : Int),
 rank))
 out)
 (i - 1))
 (gt
 (pdqL
 (byFn
 (rank, wide,
 (↑text.length : Int),
 rank))
 out)
 i) ∧
 (byFn
 (rank, wide,
 (↑text.length : Int),
 rank)
 (gt
 (pdqL
 (byFn
 (rank, wide,
 (↑text.length :
 Int),
 rank))
 out)
 (i - 1))
 (gt
 (pdqL
 (byFn
 (rank, wide,
 (↑text.length :
 Int),
 rank))
 out)
 i) ≠
 0 →
 0 ≤ i ∧
 i <
 (↑(pdqL
 (byFn
 (rank, wide,
 (↑text.length :
 Int),
 rank))
 out).length :
 Int) ∧
 0 ≤
 gt
 (pdqL
 (byFn
 (rank, wide,
 (↑text.length :
 Int),
 rank))
 out)
 i ∧
 gt
 (pdqL
 (byFn
 (rank, wide,
 (↑text.length :
 Int),
 rank))
 out)
 i <
 (↑(next.set
 (gt
 (pdqL
 (byFn
 (rank,
 wide,
 (↑text.length :
 Int),
 rank))
 out)
 i).toNat
 (gt next
 (gt
 (pdqL
 (byFn
 (rank,
 wide,
 (↑text.length :
 Int),
 rank))
 out)
 (i -
 1)))).length :
 Int) ∧
 inI64
 (gt
 (next.set
 (gt
 (pdqL
 (byFn
 (rank,
 wide,
 (↑text.length :
 Int),
 rank))
 out)
 i).toNat
 (gt next
 (gt
 (pdqL
 (byFn
 (rank,
 wide,
 (↑text.length :
 Int),
 rank))
 out)
 (i -
 1))))
 (gt
 (pdqL
 (byFn
 (rank,
 wide,
 (↑text.length :
 Int),
 rank))
 out)
 i) +
 1) ∧
 0 ≤
 gt
 (pdqL
 (byFn
 (rank,
 wide,
 (↑text.length :
 Int),
 rank))
 out)
 i ∧
 gt
 (pdqL
 (byFn
 (rank,
 wide,
 (↑text.length :
 Int),
 rank))
 out)
 i <
 (↑(next.set
 (gt
 (pdqL
 (byFn
 (rank,
 wide,
 (↑text.length :
 Int),
 rank))
 out)
 i).toNat
 (gt
 next
 (gt
 (pdqL
 (byFn
 (rank,
 wide,
 (↑text.length :
 Int),
 rank))
 out)
 (i -
 1)))).length :
 Int) ∧
 inI64
 (i + 1) ∧
 (↑text.length :
 Int) =
 (↑text.length :
 Int) ∧
 pdqL
 (byFn
 (rank,
 wide,
 (↑text.length :
 Int),
 rank))
 out =
 pdqL
 (byFn
 (rank,
 wide,
 (↑text.length :
 Int),
 rank))
 out ∧
 rank =
 rank ∧
 wide =
 wide ∧
 I_1
 (i +
 1)
 ((next.set
 (gt
 (pdqL
 (byFn
 (rank,
 wide,
 (↑text.length :
 Int),
 rank))
 out)
 i).toNat
 (gt
 next
 (gt
 (pdqL
 (byFn
 (rank,
 wide,
 (↑text.length :
 Int),
 rank))
 out)
 (i -
 1)))).set
 (gt
 (pdqL
 (byFn
 (rank,
 wide,
 (↑text.length :
 Int),
 rank))
 out)
 i).toNat
 (gt
 (next.set
 (gt
 (pdqL
 (byFn
 (rank,
 wide,
 (↑text.length :
 Int),
 rank))
 out)
 i).toNat
 (gt
 next
 (gt
 (pdqL
 (byFn
 (rank,
 wide,
 (↑text.length :
 Int),
 rank))
 out)
 (i -
 1))))
 (gt
 (pdqL
 (byFn
 (rank,
 wide,
 (↑text.length :
 Int),
 rank))
 out)
 i) +
 1)) ∧
 m_1
 (i +
 1)
 ((next.set
 (gt
 (pdqL
 (byFn
 (rank,
 wide,
 (↑text.length :
 Int),
 rank))
 out)
 i).toNat
 (gt
 next
 (gt
 (pdqL
 (byFn
 (rank,
 wide,
 (↑text.length :
 Int),
 rank))
 out)
 (i -
 1)))).set
 (gt
 (pdqL
 (byFn
 (rank,
 wide,
 (↑text.length :
 Int),
 rank))
 out)
 i).toNat
 (gt
 (next.set
 (gt
 (pdqL
 (byFn
 (rank,
 wide,
 (↑text.length :
 Int),
 rank))
 out)
 i).toNat
 (gt
 next
 (gt
 (pdqL
 (byFn
 (rank,
 wide,
 (↑text.length :
 Int),
 rank))
 out)
 (i -
 1))))
 (gt
 (pdqL
 (byFn
 (rank,
 wide,
 (↑text.length :
 Int),
 rank))
 out)
 i) +
 1)) <
 m_1
 i
 next) ∧
 (¬byFn
 (rank, wide,
 (↑text.length :
 Int),
 rank)
 (gt
 (pdqL
 (byFn
 (rank, wide,
 (↑text.length :
 Int),
 rank))
 out)
 (i - 1))
 (gt
 (pdqL
 (byFn
 (rank, wide,
 (↑text.length :
 Int),
 rank))
 out)
 i) ≠
 0 →
 inI64 (i + 1) ∧
 (↑text.length : Int) =
 (↑text.length : Int) ∧
 pdqL
 (byFn
 (rank, wide,
 (↑text.length :
 Int),
 rank))
 out =
 pdqL
 (byFn
 (rank, wide,
 (↑text.length :
 Int),
 rank))
 out ∧
 rank = rank ∧
 wide = wide ∧
 I_1 (i + 1)
 (next.set
 (gt
 (pdqL
 (byFn
 (rank,
 wide,
 (↑text.length :
 Int),
 rank))
 out)
 i).toNat
 (gt next
 (gt
 (pdqL
 (byFn
 (rank,
 wide,
 (↑text.length :
 Int),
 rank))
 out)
 (i -
 1)))) ∧
 m_1 (i + 1)
 (next.set
 (gt
 (pdqL
 (byFn
 (rank,
 wide,
 (↑text.length :
 Int),
 rank))
 out)
 i).toNat
 (gt next
 (gt
 (pdqL
 (byFn
 (rank,
 wide,
 (↑text.length :
 Int),
 rank))
 out)
 (i -
 1)))) <
 m_1 i next)) ∧
 (¬i < (↑text.length : Int) →
 (¬(↑text.length : Int) = 0 →
 inI64 ((↑text.length : Int) - 1)) ∧
 (¬(↑text.length : Int) = 0 → 0 ≤ (↑text.length : Int) - 1) ∧
 (¬(↑text.length : Int) = 0 →
 (↑text.length : Int) - 1 <
 (↑(pdqL
 (byFn
 (rank, wide, (↑text.length : Int), rank))
 out).length :
 Int)) ∧
 (¬(↑text.length : Int) = 0 →
 0 ≤
 gt
 (pdqL
 (byFn
 (rank, wide, (↑text.length : Int), rank))
 out)
 ((↑text.length : Int) - 1)) ∧
 (¬(↑text.length : Int) = 0 →
 gt
 (pdqL
 (byFn
 (rank, wide, (↑text.length : Int), rank))
 out)
 ((↑text.length : Int) - 1) <
 (↑next.length : Int)) ∧
 (¬(↑text.length : Int) = 0 →
 inI64 ((↑text.length : Int) - 1)) ∧
 ((↑text.length : Int) = 0 ∨
 gt next
 (gt
 (pdqL
 (byFn
 (rank, wide, (↑text.length : Int),
 rank))
 out)
 ((↑text.length : Int) - 1)) =
 (↑text.length : Int) - 1 →
 pdqL
 (byFn
 (rank, wide, (↑text.length : Int),
 rank))
 out =
 saOf text) ∧
 (¬((↑text.length : Int) = 0 ∨
 gt next
 (gt
 (pdqL
 (byFn
 (rank, wide,
 (↑text.length : Int), rank))
 out)
 ((↑text.length : Int) - 1)) =
 (↑text.length : Int) - 1) →
 inI64 (wide * 2) ∧
 (↑text.length : Int) =
 (↑text.length : Int) ∧
 I
 (pdqL
 (byFn
 (rank, wide, (↑text.length : Int),
 rank))
 out)
 next (wide * 2) ∧
 m
 (pdqL
 (byFn
 (rank, wide,
 (↑text.length : Int), rank))
 out)
 next (wide * 2) <
 m out rank wide)))) :
 Con Try.prog f_suffix_sorted suffix_sorted_ct := ⟨suffix_sorted_ok.able, fun x hx =>
 con_eq hC (L := [(f_slices_SortFunc___int_int_, sortFi suffix_by_cq), (f_suffix_sorted_2, crFi suffix_sorted_2_cr)]) (⟨hU_slices_SortFunc___int_int_, cr_fok hU_suffix_sorted_2, trivial⟩) suffix_sorted_ok (ct := suffix_sorted_ct) (depth := 5) rfl (by kernel_rfl) x (H (@id (List UInt8) x) (mpr' hx (by kernel_rfl))) (by kernel_rfl)⟩

theorem suffix_common_vc (hC : Cons Try.prog [])
 (H : ∀ (s : List UInt8) (o : List Int), (s.length ≤ 600 ∧ isSa s o) →
 (↑s.length : Int) = (↑s.length : Int) ∧
 (0 : Int) ≤ (↑s.length : Int) ∧
 (8 : Nat) * (↑s.length : Int).toNat ≤ (140737488355328 : Nat) ∧
 (↑s.length : Int) = (↑s.length : Int) ∧
 (0 : Int) ≤ (↑s.length : Int) ∧
 (8 : Nat) * (↑s.length : Int).toNat ≤ (140737488355328 : Nat) ∧
 ∃ (I : Int → List Int → Prop),
 ∃ (m : Int → List Int → Nat),
 (List.replicate (↑s.length : Int).toNat (0 : Int) = List.replicate (↑s.length : Int).toNat (0 : Int) ∧
 I (0 : Int) (List.replicate (↑s.length : Int).toNat (0 : Int))) ∧
 ∀ (x : Int) (rank : List Int),
 I x rank →
 (x < (↑o.length : Int) →
 (0 : Int) ≤ x ∧
 x < (↑o.length : Int) ∧
 (0 : Int) ≤ gt o x ∧
 gt o x < (↑rank.length : Int) ∧
 inI64 (x + (1 : Int)) ∧
 List.replicate (↑s.length : Int).toNat (0 : Int) =
 List.replicate (↑s.length : Int).toNat (0 : Int) ∧
 I (x + (1 : Int)) (rank.set (gt o x).toNat x) ∧
 m (x + (1 : Int)) (rank.set (gt o x).toNat x) < m x rank) ∧
 (¬x < (↑o.length : Int) →
 ∃ (I : Int → Int → List Int → Prop),
 ∃ (m : Int → Int → List Int → Nat),
 (rank = rank ∧ I (0 : Int) (0 : Int) (List.replicate (↑s.length : Int).toNat (0 : Int))) ∧
 ∀ (long x : Int) (out : List Int),
 I long x out →
 (x < (↑s.length : Int) →
 (0 : Int) ≤ x ∧
 x < (↑rank.length : Int) ∧
 (gt rank x = (0 : Int) →
 inI64 (x + (1 : Int)) ∧
 rank = rank ∧
 I (0 : Int) (x + (1 : Int)) out ∧
 m (0 : Int) (x + (1 : Int)) out < m long x out) ∧
 (¬gt rank x = (0 : Int) →
 (0 : Int) ≤ x ∧
 x < (↑rank.length : Int) ∧
 inI64 (gt rank x - (1 : Int)) ∧
 (0 : Int) ≤ gt rank x - (1 : Int) ∧
 gt rank x - (1 : Int) < (↑o.length : Int) ∧
 ∃ (I_1 : Int → Prop),
 ∃ (m_1 : Int → Nat),
 (rank = rank ∧ out = out ∧ I_1 long) ∧
 ∀ (long_1 : Int),
 I_1 long_1 →
 inI64 (x + long_1) ∧
 (x + long_1 < (↑s.length : Int) →
 inI64
 (gt o (gt rank x - (1 : Int)) + long_1)) ∧
 (x + long_1 < (↑s.length : Int) ∧
 gt o (gt rank x - (1 : Int)) + long_1 <
 (↑s.length : Int) →
 inI64 (x + long_1)) ∧
 (x + long_1 < (↑s.length : Int) ∧
 gt o (gt rank x - (1 : Int)) + long_1 <
 (↑s.length : Int) →
 (0 : Int) ≤ x + long_1) ∧
 (x + long_1 < (↑s.length : Int) ∧
 gt o (gt rank x - (1 : Int)) +
 long_1 <
 (↑s.length : Int) →
 x + long_1 < (↑s.length : Int)) ∧
 (x + long_1 < (↑s.length : Int) ∧
 gt o (gt rank x - (1 : Int)) +
 long_1 <
 (↑s.length : Int) →
 inI64
 (gt o (gt rank x - (1 : Int)) +
 long_1)) ∧
 (x + long_1 < (↑s.length : Int) ∧
 gt o (gt rank x - (1 : Int)) +
 long_1 <
 (↑s.length : Int) →
 (0 : Int) ≤
 gt o (gt rank x - (1 : Int)) +
 long_1) ∧
 (x + long_1 < (↑s.length : Int) ∧
 gt o (gt rank x - (1 : Int)) +
 long_1 <
 (↑s.length : Int) →
 gt o (gt rank x - (1 : Int)) +
 long_1 <
 (↑s.length : Int)) ∧
 ((x + long_1 < (↑s.length : Int) ∧
 gt o
 (gt rank x -
 (1 : Int)) +
 long_1 <
 (↑s.length : Int)) ∧
 gt s (x + long_1) =
 gt s
 (gt o
 (gt rank x -
 (1 : Int)) +
 long_1) →
 inI64 (long_1 + (1 : Int)) ∧
 rank = rank ∧
 out = out ∧
 I_1 (long_1 + (1 : Int)) ∧
 m_1
 (long_1 +
 (1 : Int)) <
 m_1 long_1) ∧
 (¬((x + long_1 <
 (↑s.length : Int) ∧
 gt o
 (gt rank x -
 (1 : Int)) +
 long_1 <
 (↑s.length : Int)) ∧
 gt s (x + long_1) =
 gt s
 (gt o
 (gt rank x -
 (1 : Int)) +
 long_1)) →
 (0 : Int) ≤ x ∧
 x < (↑rank.length : Int) ∧
 (0 : Int) ≤ gt rank x ∧
 gt rank x <
 (↑out.length : Int) ∧
 inI64
 (long_1 -
 (1 : Int)) ∧
 inI64
 (x + (1 : Int)) ∧
 rank = rank ∧
 I
 (max (0 : Int)
 (long_1 -
 (1 :
 Int)))
 (x +
 (1 : Int))
 (out.set
 (gt rank
 x).toNat
 long_1) ∧
 m
 (max
 (0 : Int)
 (long_1 -
 (1 :
 Int)))
 (x +
 (1 : Int))
 (out.set
 (gt rank
 x).toNat
 long_1) <
 m long x
 out))) ∧
 (¬x < (↑s.length : Int) → out = comOf s o))) :
 Con Try.prog f_suffix_common suffix_common_ct := ⟨suffix_common_ok.able, fun x hx =>
 con_eq hC (L := []) (trivial) suffix_common_ok (ct := suffix_common_ct) (depth := 3) rfl (by kernel_rfl) x (H (@id (List UInt8 × List Int) x).1 (@id (List UInt8 × List Int) x).2 (mpr' hx (by kernel_rfl))) (by kernel_rfl)⟩

theorem suffix_Unlike_vc (hC : Cons Try.prog [(f_suffix_fault, suffix_fault_ct), (f_suffix_sorted, suffix_sorted_ct), (f_suffix_common, suffix_common_ct)])
 (H : ∀ (s : List UInt8), (fitS s) →
 fitS s ∧
 (suffixFault s ≠ (0 : Int) → (0 : Int) = (suffixUnlike s).fst ∧ suffixFault s = (suffixUnlike s).snd) ∧
 (¬suffixFault s ≠ (0 : Int) →
 inI64 ((↑s.length : Int) + (1 : Int)) ∧
 inI64 ((↑s.length : Int) * ((↑s.length : Int) + (1 : Int))) ∧
 (2 : Int) ≠ (0 : Int) ∧
 inI64 (((↑s.length : Int) * ((↑s.length : Int) + (1 : Int))).tdiv (2 : Int)) ∧
 s.length ≤ (600 : Nat) ∧
 (s.length ≤ (600 : Nat) ∧ isSa s (saOf s)) ∧
 ∃ (I : Int → Int → Prop),
 ∃ (m : Int → Int → Nat),
 (saOf s = saOf s ∧
 comOf s (saOf s) = comOf s (saOf s) ∧
 I (((↑s.length : Int) * ((↑s.length : Int) + (1 : Int))).tdiv (2 : Int)) (0 : Int)) ∧
 ∀ (n x : Int),
 I n x →
 (x < (↑(comOf s (saOf s)).length : Int) →
 (0 : Int) ≤ x ∧
 x < (↑(comOf s (saOf s)).length : Int) ∧
 inI64 (n - gt (comOf s (saOf s)) x) ∧
 inI64 (x + (1 : Int)) ∧
 saOf s = saOf s ∧
 comOf s (saOf s) = comOf s (saOf s) ∧
 I (n - gt (comOf s (saOf s)) x) (x + (1 : Int)) ∧
 m (n - gt (comOf s (saOf s)) x) (x + (1 : Int)) < m n x) ∧
 (¬x < (↑(comOf s (saOf s)).length : Int) →
 n = (suffixUnlike s).fst ∧ (0 : Int) = (suffixUnlike s).snd))) :
 Con Try.prog f_suffix_Unlike suffix_Unlike_ct := ⟨suffix_Unlike_ok.able, fun x hx =>
 con_eq hC (L := []) (trivial) suffix_Unlike_ok (ct := suffix_Unlike_ct) (depth := 3) rfl (by kernel_rfl) x (H (@id (List UInt8) x) (mpr' hx (by kernel_rfl))) (by kernel_rfl)⟩

theorem ref_ends_vc (hC : Cons Try.prog []) (hU_sort_Slice : FiOk Try.prog f_sort_Slice ref_ends_sort_sf)
 (H : ∀ (s : List UInt8), (s.length ≤ 600) →
 ∃ (I : Int → List Int → Prop),
 ∃ (m : Int → List Int → Nat),
 (s = s ∧ I 0 []) ∧
 ∀ (x : Int) (out : List Int),
 I x out →
 (x < (↑s.length : Int) →
 (out.length + 1) * 8 ≤ 140737488355328 ∧
 inI64 (x + 1) ∧ s = s ∧ I (x + 1) (out ++ [x]) ∧ m (x + 1) (out ++ [x]) < m x out) ∧
 (¬x < (↑s.length : Int) → (out.Perm (upTo s.length) ∧ s.length ≤ 600) ∧ saOf s = saOf s)) :
 Con Try.prog f_ref_ends ref_ends_ct := ⟨ref_ends_ok.able, fun x hx =>
 con_eq hC (L := [(f_sort_Slice, ref_ends_sort_sf)]) (⟨hU_sort_Slice, trivial⟩) ref_ends_ok (ct := ref_ends_ct) (depth := 3) rfl (by kernel_rfl) x (H (@id (List UInt8) x) (mpr' hx (by kernel_rfl))) (by kernel_rfl)⟩

theorem ref_beginAlike_vc (hC : Cons Try.prog [])
 (H : ∀ (a : List UInt8) (b : List UInt8), (fitS a ∧ fitS b) →
 ∃ (I : Int → Prop),
 ∃ (m : Int → Nat),
 I 0 ∧
 ∀ (n : Int),
 I n →
 (n < (↑a.length : Int) ∧ n < (↑b.length : Int) → 0 ≤ n) ∧
 (n < (↑a.length : Int) ∧ n < (↑b.length : Int) → n < (↑a.length : Int)) ∧
 (n < (↑a.length : Int) ∧ n < (↑b.length : Int) → 0 ≤ n) ∧
 (n < (↑a.length : Int) ∧ n < (↑b.length : Int) → n < (↑b.length : Int)) ∧
 ((n < (↑a.length : Int) ∧ n < (↑b.length : Int)) ∧ gt a n = gt b n →
 inI64 (n + 1) ∧ I (n + 1) ∧ m (n + 1) < m n) ∧
 (¬((n < (↑a.length : Int) ∧ n < (↑b.length : Int)) ∧ gt a n = gt b n) → n = (↑(lcp a b) : Int))) :
 Con Try.prog f_ref_beginAlike ref_beginAlike_ct := ⟨ref_beginAlike_ok.able, fun x hx =>
 con_eq hC (L := []) (trivial) ref_beginAlike_ok (ct := ref_beginAlike_ct) (depth := 3) rfl (by kernel_rfl) x (H (@id (List UInt8 × List UInt8) x).1 (@id (List UInt8 × List UInt8) x).2 (mpr' hx (by kernel_rfl))) (by kernel_rfl)⟩

theorem ref_SuffixCommon_vc (hC : Cons Try.prog [(f_ref_ends, ref_ends_ct), (f_ref_beginAlike, ref_beginAlike_ct)])
 (H : ∀ (s : List UInt8), (fitS s) →
 (600 < (↑s.length : Int) → [] = (suffixCommon s).fst ∧ 1 = (suffixCommon s).snd) ∧
 (¬600 < (↑s.length : Int) →
 s.length ≤ 600 ∧
 ∃ (I : Int → List Int → Prop),
 ∃ (m : Int → List Int → Nat),
 (saOf s = saOf s ∧ I 0 []) ∧
 ∀ (x : Int) (out : List Int),
 I x out →
 (x < (↑(saOf s).length : Int) →
 0 ≤ x ∧
 x < (↑(saOf s).length : Int) ∧
 (0 < x → 0 ≤ gt (saOf s) x) ∧
 (0 < x → gt (saOf s) x ≤ (↑s.length : Int)) ∧
 (0 < x → (↑s.length : Int) ≤ (↑s.length : Int)) ∧
 (0 < x → inI64 (x - 1)) ∧
 (0 < x → 0 ≤ x - 1) ∧
 (0 < x → x - 1 < (↑(saOf s).length : Int)) ∧
 (0 < x → 0 ≤ gt (saOf s) (x - 1)) ∧
 (0 < x → gt (saOf s) (x - 1) ≤ (↑s.length : Int)) ∧
 (0 < x → (↑s.length : Int) ≤ (↑s.length : Int)) ∧
 (0 < x →
 fitS
 (List.drop (gt (saOf s) x).toNat
 (List.take (↑s.length : Int).toNat s)) ∧
 fitS
 (List.drop (gt (saOf s) (x - 1)).toNat
 (List.take (↑s.length : Int).toNat s))) ∧
 (out.length + 1) * 8 ≤ 140737488355328 ∧
 inI64 (x + 1) ∧
 saOf s = saOf s ∧
 I (x + 1)
 (out ++
 [iteP (0 < x)
 (↑(lcp
 (List.drop (gt (saOf s) x).toNat
 (List.take (↑s.length : Int).toNat s))
 (List.drop (gt (saOf s) (x - 1)).toNat
 (List.take (↑s.length : Int).toNat s))) :
 Int)
 0]) ∧
 m (x + 1)
 (out ++
 [iteP (0 < x)
 (↑(lcp
 (List.drop (gt (saOf s) x).toNat
 (List.take (↑s.length : Int).toNat s))
 (List.drop (gt (saOf s) (x - 1)).toNat
 (List.take (↑s.length : Int).toNat s))) :
 Int)
 0]) <
 m x out) ∧
 (¬x < (↑(saOf s).length : Int) → out = (suffixCommon s).fst ∧ 0 = (suffixCommon s).snd))) :
 Con Try.prog f_ref_SuffixCommon ref_SuffixCommon_ct := ⟨ref_SuffixCommon_ok.able, fun x hx =>
 con_eq hC (L := []) (trivial) ref_SuffixCommon_ok (ct := ref_SuffixCommon_ct) (depth := 3) rfl (by kernel_rfl) x (H (@id (List UInt8) x) (mpr' hx (by kernel_rfl))) (by kernel_rfl)⟩

theorem ref_SuffixUnlike_vc (hC : Cons Try.prog [(f_ref_ends, ref_ends_ct), (f_ref_SuffixCommon, ref_SuffixCommon_ct)])
 (H : ∀ (s : List UInt8), (fitS s) →
 fitS s ∧
 ((suffixCommon s).snd ≠ 0 → 0 = (suffixUnlike s).fst ∧ (suffixCommon s).snd = (suffixUnlike s).snd) ∧
 (¬(suffixCommon s).snd ≠ 0 →
 s.length ≤ 600 ∧
 ∃ (I : Int → Int → Prop),
 ∃ (m : Int → Int → Nat),
 ((suffixCommon s).fst = (suffixCommon s).fst ∧ saOf s = saOf s ∧ I 0 0) ∧
 ∀ (n x : Int),
 I n x →
 (x < (↑(saOf s).length : Int) →
 0 ≤ x ∧
 x < (↑(saOf s).length : Int) ∧
 inI64 ((↑s.length : Int) - gt (saOf s) x) ∧
 0 ≤ x ∧
 x < (↑(suffixCommon s).fst.length : Int) ∧
 inI64 ((↑s.length : Int) - gt (saOf s) x - gt (suffixCommon s).fst x) ∧
 inI64 (n + ((↑s.length : Int) - gt (saOf s) x - gt (suffixCommon s).fst x)) ∧
 inI64 (x + 1) ∧
 (suffixCommon s).fst = (suffixCommon s).fst ∧
 saOf s = saOf s ∧
 I (n + ((↑s.length : Int) - gt (saOf s) x - gt (suffixCommon s).fst x))
 (x + 1) ∧
 m (n + ((↑s.length : Int) - gt (saOf s) x - gt (suffixCommon s).fst x))
 (x + 1) <
 m n x) ∧
 (¬x < (↑(saOf s).length : Int) → n = (suffixUnlike s).fst ∧ 0 = (suffixUnlike s).snd))) :
 Con Try.prog f_ref_SuffixUnlike ref_SuffixUnlike_ct := ⟨ref_SuffixUnlike_ok.able, fun x hx =>
 con_eq hC (L := []) (trivial) ref_SuffixUnlike_ok (ct := ref_SuffixUnlike_ct) (depth := 3) rfl (by kernel_rfl) x (H (@id (List UInt8) x) (mpr' hx (by kernel_rfl))) (by kernel_rfl)⟩

theorem law_SuffixUnlikes_vc (hC : Cons Try.prog [(f_suffix_Unlike, suffix_Unlike_ct), (f_ref_SuffixUnlike, ref_SuffixUnlike_ct)])
 (H : ∀ (s : List UInt8), (s.length.le 140737488351232) →
 fitS s ∧ fitS s ∧ bo ((suffixUnlike s).fst = (suffixUnlike s).fst ∧ (suffixUnlike s).snd = (suffixUnlike s).snd) = true) :
 Con Try.prog f_law_SuffixUnlikes law_SuffixUnlikes_ct := ⟨law_SuffixUnlikes_ok.able, fun x hx =>
 con_eq hC (L := []) (trivial) law_SuffixUnlikes_ok (ct := law_SuffixUnlikes_ct) (depth := 3) rfl (by kernel_rfl) x (H (@id (List UInt8) x) (mpr' hx (by kernel_rfl))) (by kernel_rfl)⟩

end Go.Proofs.Ytkemhbclkglmbaa
