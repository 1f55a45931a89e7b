/- The typed conditions of the functions, printed by a program of the claim's author; each gives the contract of its function. Conditions: none. -/
import Derived.Test.YtkemhbclkglmbaaGFuzzyGuesses
import Derived.Test.YtkemhbclkglmbaaVpA
import Derived.Test.YtkemhbclkglmbaaVpB
import Derived.Test.YtkemhbclkglmbaaVpS
import Derived.Test.YtkemhbclkglmbaaVpY
import Derived.Test.YtkemhbclkglmbaaVpZ
import Derived.Test.YtkemhbclkglmbaaVpSA
import Derived.Test.YtkemhbclkglmbaaVpFG
import Derived.Test.YtkemhbclkglmbaaLay
import Derived.Test.YtkemhbclkglmbaaLayT
import Derived.Test.YtkemhbclkglmbaaBase
set_option linter.unusedVariables false
set_option linter.unusedSimpArgs false
set_option maxRecDepth 100000
namespace Go.Proofs.Ytkemhbclkglmbaa
open Go.Vc Go.Fu

theorem fuzzy_long_vc (hC : Cons Try.prog [])
 (H : ∀ (words : List (List UInt8)), (wordsPre words) →
 ∃ (I : Int → Prop),
 ∃ (m : Int → Nat),
 I (0 : Int) ∧
 ∀ (x : Int),
 I x →
 (x < (↑words.length : Int) →
 (0 : Int) ≤ x ∧
 x < (↑words.length : Int) ∧
 ((20 : Int) < (↑(gt words x).length : Int) → bo ((0 : Int) ≤ x) = longOf words) ∧
 (¬(20 : Int) < (↑(gt words x).length : Int) →
 inI64 (x + (1 : Int)) ∧ I (x + (1 : Int)) ∧ m (x + (1 : Int)) < m x)) ∧
 (¬x < (↑words.length : Int) → bo ((0 : Int) ≤ (-1 : Int)) = longOf words)) :
 Con Try.prog f_fuzzy_long fuzzy_long_ct := ⟨fuzzy_long_ok.able rfl, fun x hx =>
 con_eq hC (L := [(f_slices_ContainsFunc___string_string_, slices_ContainsFunc___string_string__fi), (f_slices_IndexFunc___string_string_, slices_IndexFunc___string_string__fi), (f_fuzzy_long_1, fuzzy_long_1_fi)]) (⟨slices_ContainsFunc___string_string__ok, slices_IndexFunc___string_string__ok, fuzzy_long_1_ok, trivial⟩) fuzzy_long_ok (ct := fuzzy_long_ct) (depth := 4) rfl (by kernel_rfl) x (H (@id (List (List UInt8)) x) (mpr' hx (by kernel_rfl))) (by kernel_rfl)⟩

theorem fuzzy_far_vc (hC : Cons Try.prog [])
 (H : ∀ (a : List UInt8) (b : List UInt8), (wordPre a ∧ wordPre b) →
 inI64 ((↑b.length : Int) + (1 : Int)) ∧
 (↑b.length : Int) + (1 : Int) = (↑b.length : Int) + (1 : Int) ∧
 (0 : Int) ≤ (↑b.length : Int) + (1 : Int) ∧
 (8 : Nat) * ((↑b.length : Int) + (1 : Int)).toNat ≤ (140737488355328 : Nat) ∧
 ∃ (I : Int → List Int → Prop),
 ∃ (m : Int → List Int → Nat),
 I (0 : Int) (List.replicate ((↑b.length : Int) + (1 : Int)).toNat (0 : Int)) ∧
 ∀ (x : Int) (row : List Int),
 I x row →
 (x < (↑(List.replicate ((↑b.length : Int) + (1 : Int)).toNat (0 : Int)).length : Int) →
 (0 : Int) ≤ x ∧
 x < (↑row.length : Int) ∧
 inI64 (x + (1 : Int)) ∧
 I (x + (1 : Int)) (row.set x.toNat x) ∧ m (x + (1 : Int)) (row.set x.toNat x) < m x row) ∧
 (¬x < (↑(List.replicate ((↑b.length : Int) + (1 : Int)).toNat (0 : Int)).length : Int) →
 ∃ (I : Int → List Int → Prop),
 ∃ (m : Int → List Int → Nat),
 I (0 : Int) row ∧
 ∀ (x : Int) (row : List Int),
 I x row →
 (x < (↑a.length : Int) →
 (0 : Int) ≤ (0 : Int) ∧
 (0 : Int) < (↑row.length : Int) ∧
 inI64 (x + (1 : Int)) ∧
 (0 : Int) ≤ (0 : Int) ∧
 (0 : Int) < (↑row.length : Int) ∧
 ∃ (I_1 : Int → Int → List Int → Prop),
 ∃ (m_1 : Int → Int → List Int → Nat),
 I_1 (gt row (0 : Int)) (0 : Int)
 (row.set (Int.toNat (0 : Int)) (x + (1 : Int))) ∧
 ∀ (corner x_1 : Int) (row_1 : List Int),
 I_1 corner x_1 row_1 →
 (x_1 < (↑b.length : Int) →
 (0 : Int) ≤ x ∧
 x < (↑a.length : Int) ∧
 (0 : Int) ≤ x_1 ∧
 x_1 < (↑b.length : Int) ∧
 (gt a x ≠ gt b x_1 → inI64 (corner + (1 : Int))) ∧
 inI64 (x_1 + (1 : Int)) ∧
 (0 : Int) ≤ x_1 + (1 : Int) ∧
 x_1 + (1 : Int) < (↑row_1.length : Int) ∧
 inI64 (x_1 + (1 : Int)) ∧
 (0 : Int) ≤ x_1 ∧
 x_1 < (↑row_1.length : Int) ∧
 inI64 (gt row_1 x_1 + (1 : Int)) ∧
 inI64 (x_1 + (1 : Int)) ∧
 (0 : Int) ≤ x_1 + (1 : Int) ∧
 x_1 + (1 : Int) <
 (↑row_1.length : Int) ∧
 inI64
 (gt row_1
 (x_1 + (1 : Int)) +
 (1 : Int)) ∧
 (0 : Int) ≤
 x_1 + (1 : Int) ∧
 x_1 + (1 : Int) <
 (↑row_1.length :
 Int) ∧
 inI64
 (x_1 + (1 : Int)) ∧
 I_1
 (gt row_1
 (x_1 +
 (1 : Int)))
 (x_1 + (1 : Int))
 (row_1.set
 (x_1 +
 (1 :
 Int)).toNat
 (min
 (min
 (iteP
 (gt a x ≠
 gt b
 x_1)
 (corner +
 (1 :
 Int))
 corner)
 (gt row_1
 x_1 +
 (1 :
 Int)))
 (gt row_1
 (x_1 +
 (1 :
 Int)) +
 (1 :
 Int)))) ∧
 m_1
 (gt row_1
 (x_1 +
 (1 : Int)))
 (x_1 +
 (1 : Int))
 (row_1.set
 (x_1 +
 (1 :
 Int)).toNat
 (min
 (min
 (iteP
 (gt a
 x ≠
 gt b
 x_1)
 (corner +
 (1 :
 Int))
 corner)
 (gt row_1
 x_1 +
 (1 :
 Int)))
 (gt row_1
 (x_1 +
 (1 :
 Int)) +
 (1 :
 Int)))) <
 m_1 corner x_1
 row_1) ∧
 (¬x_1 < (↑b.length : Int) →
 inI64 (x + (1 : Int)) ∧
 I (x + (1 : Int)) row_1 ∧
 m (x + (1 : Int)) row_1 < m x row)) ∧
 (¬x < (↑a.length : Int) →
 (0 : Int) ≤ (↑b.length : Int) ∧
 (↑b.length : Int) < (↑row.length : Int) ∧ gt row (↑b.length : Int) = farOf a b))) :
 Con Try.prog f_fuzzy_far fuzzy_far_ct := ⟨fuzzy_far_ok.able rfl, fun x hx =>
 con_eq hC (L := []) (trivial) fuzzy_far_ok (ct := fuzzy_far_ct) (depth := 0) rfl (by kernel_rfl) x (H (@id (List UInt8 × List UInt8) x).1 (@id (List UInt8 × List UInt8) x).2 (mpr' hx (by kernel_rfl))) (by kernel_rfl)⟩

theorem cmp_isNaN_int__vc (hC : Cons Try.prog [])
 (H : ∀ (x : Int), (True) →
 bo (x ≠ x) = false) :
 Con Try.prog f_cmp_isNaN_int_ cmp_isNaN_int__ct := ⟨cmp_isNaN_int__ok.able rfl, fun x hx =>
 con_eq hC (L := []) (trivial) cmp_isNaN_int__ok (ct := cmp_isNaN_int__ct) (depth := 3) rfl (by kernel_rfl) x (H (@id (Int) x) (mpr' hx (by kernel_rfl))) (by kernel_rfl)⟩

theorem cmp_Compare_int__vc (hC : Cons Try.prog [(f_cmp_isNaN_int_, cmp_isNaN_int__ct)])
 (H : ∀ (x : Int) (y : Int), (True) →
 True ∧
 True ∧
 (false = true → (false = true → 0 = cmpI x y) ∧ (¬false = true → -1 = cmpI x y)) ∧
 (¬false = true →
 (false = true → 1 = cmpI x y) ∧
 (¬false = true → (x < y → -1 = cmpI x y) ∧ (¬x < y → (y < x → 1 = cmpI x y) ∧ (¬y < x → 0 = cmpI x y))))) :
 Con Try.prog f_cmp_Compare_int_ cmp_Compare_int__ct := ⟨cmp_Compare_int__ok.able rfl, fun x hx =>
 con_eq hC (L := []) (trivial) cmp_Compare_int__ok (ct := cmp_Compare_int__ct) (depth := 3) rfl (by kernel_rfl) x (H (@id (Int × Int) x).1 (@id (Int × Int) x).2 (mpr' hx (by kernel_rfl))) (by kernel_rfl)⟩

theorem cmp_isNaN_string__vc (hC : Cons Try.prog [])
 (H : ∀ (x : List UInt8), (True) →
 bo (x ≠ x) = false) :
 Con Try.prog f_cmp_isNaN_string_ cmp_isNaN_string__ct := ⟨cmp_isNaN_string__ok.able rfl, fun x hx =>
 con_eq hC (L := []) (trivial) cmp_isNaN_string__ok (ct := cmp_isNaN_string__ct) (depth := 3) rfl (by kernel_rfl) x (H (@id (List UInt8) x) (mpr' hx (by kernel_rfl))) (by kernel_rfl)⟩

theorem cmp_Compare_string__vc (hC : Cons Try.prog [(f_cmp_isNaN_string_, cmp_isNaN_string__ct)])
 (H : ∀ (x : List UInt8) (y : List UInt8), (True) →
 True ∧
 True ∧
 (false = true → (false = true → 0 = cmpS x y) ∧ (¬false = true → -1 = cmpS x y)) ∧
 (¬false = true →
 (false = true → 1 = cmpS x y) ∧
 (¬false = true →
 (Op.bytesLess x y = true → -1 = cmpS x y) ∧
 (¬Op.bytesLess x y = true →
 (¬(Op.bytesLess x y = true ∨ x = y) → 1 = cmpS x y) ∧
 (¬¬(Op.bytesLess x y = true ∨ x = y) → 0 = cmpS x y))))) :
 Con Try.prog f_cmp_Compare_string_ cmp_Compare_string__ct := ⟨cmp_Compare_string__ok.able rfl, fun x hx =>
 con_eq hC (L := []) (trivial) cmp_Compare_string__ok (ct := cmp_Compare_string__ct) (depth := 3) rfl (by kernel_rfl) x (H (@id (List UInt8 × List UInt8) x).1 (@id (List UInt8 × List UInt8) x).2 (mpr' hx (by kernel_rfl))) (by kernel_rfl)⟩

theorem cmp_Or_int__vc (hC : Cons Try.prog [])
 (H : ∀ (l : List Int), (fitL l) →
 ∃ (I : Int → Prop),
 ∃ (m : Int → Nat),
 I 0 ∧
 ∀ (x : Int),
 I x →
 (x < (↑l.length : Int) →
 0 ≤ x ∧
 x < (↑l.length : Int) ∧
 (gt l x ≠ 0 → gt l x = orL l) ∧ (¬gt l x ≠ 0 → inI64 (x + 1) ∧ I (x + 1) ∧ m (x + 1) < m x)) ∧
 (¬x < (↑l.length : Int) → 0 = orL l)) :
 Con Try.prog f_cmp_Or_int_ cmp_Or_int__ct := ⟨cmp_Or_int__ok.able rfl, fun x hx =>
 con_eq hC (L := []) (trivial) cmp_Or_int__ok (ct := cmp_Or_int__ct) (depth := 3) rfl (by kernel_rfl) x (H (@id (List Int) x) (mpr' hx (by kernel_rfl))) (by kernel_rfl)⟩

theorem fuzzy_Guess_1_vc (hC : Cons Try.prog [(f_cmp_Compare_int_, cmp_Compare_int__ct), (f_cmp_Compare_string_, cmp_Compare_string__ct), (f_cmp_Or_int_, cmp_Or_int__ct)])
 (H : ∀ (fars : List Int) (ws : List (List UInt8)) (a : Int) (b : Int), (guPre (fars, ws) a b) →
 0 ≤ a ∧
 a < (↑fars.length : Int) ∧
 0 ≤ b ∧
 b < (↑fars.length : Int) ∧
 0 ≤ a ∧
 a < (↑ws.length : Int) ∧
 0 ≤ b ∧
 b < (↑ws.length : Int) ∧
 True ∧
 True ∧
 True ∧
 fitL [cmpI (gt fars a) (gt fars b), cmpS (gt ws a) (gt ws b), cmpI a b] ∧
 orL [cmpI (gt fars a) (gt fars b), cmpS (gt ws a) (gt ws b), cmpI a b] = guFn (fars, ws) a b) :
 ConR Try.prog f_fuzzy_Guess_1 fuzzy_Guess_1_cr := ⟨fuzzy_Guess_1_ok.able rfl, fuzzy_Guess_1_cr_dec, fun k x hx ys hy =>
 conR_eq hC (L := []) (trivial) fuzzy_Guess_1_ok (c := fuzzy_Guess_1_cr) (depth := 4) rfl (m := 2) (fun _ => rfl) (by kernel_rfl) k x (H (@id (List Int × List (List UInt8)) k).1 (@id (List Int × List (List UInt8)) k).2 (@id (Int × Int) x).1 (@id (Int × Int) x).2 (mpr' hx (by kernel_rfl))) (by kernel_rfl) ys hy⟩

theorem fuzzy_Guess_vc (hC : Cons Try.prog [(f_fuzzy_long, fuzzy_long_ct), (f_fuzzy_far, fuzzy_far_ct)]) (hU_slices_SortFunc___int_int_ : FiOk Try.prog f_slices_SortFunc___int_int_ (sortFi guess_cq)) (hU_fuzzy_Guess_1 : ConR Try.prog f_fuzzy_Guess_1 fuzzy_Guess_1_cr)
 (H : ∀ (ws : List (List UInt8)) (w : List UInt8) (many : Int), (wordsPre ws) →
 wordsPre [w] ∧
 (¬longOf [w] = true → wordsPre ws) ∧
 ((longOf [w] = true ∨ longOf ws = true) ∨ (80 : Int) < (↑ws.length : Int) →
 [] = (fuzzyGuess ws w many).fst ∧ (1 : Int) = (fuzzyGuess ws w many).snd) ∧
 (¬((longOf [w] = true ∨ longOf ws = true) ∨ (80 : Int) < (↑ws.length : Int)) →
 (many < (0 : Int) → [] = (fuzzyGuess ws w many).fst ∧ (2 : Int) = (fuzzyGuess ws w many).snd) ∧
 (¬many < (0 : Int) →
 (↑ws.length : Int) = (↑ws.length : Int) ∧
 (0 : Int) ≤ (↑ws.length : Int) ∧
 (8 : Nat) * (↑ws.length : Int).toNat ≤ (140737488355328 : Nat) ∧
 ∃ (I : Int → List Int → List Int → Prop),
 ∃ (m : Int → List Int → List Int → Nat),
 (ws = ws ∧ I (0 : Int) [] (List.replicate (↑ws.length : Int).toNat (0 : Int))) ∧
 ∀ (x : Int) (out fars : List Int),
 I x out fars →
 (x < (↑ws.length : Int) →
 (0 : Int) ≤ x ∧
 x < (↑ws.length : Int) ∧
 (out.length + (1 : Nat)) * (8 : Nat) ≤ (140737488355328 : Nat) ∧
 (wordPre (gt ws x) ∧ wordPre w) ∧
 (0 : Int) ≤ x ∧
 x < (↑fars.length : Int) ∧
 inI64 (x + (1 : Int)) ∧
 ws = ws ∧
 I (x + (1 : Int)) (out ++ [x]) (fars.set x.toNat (farOf (gt ws x) w)) ∧
 m (x + (1 : Int)) (out ++ [x])
 (fars.set x.toNat (farOf (gt ws x) w)) <
 m x out fars) ∧
 (¬x < (↑ws.length : Int) →
 (out.length < (4611686018427387904 : Nat) ∧
 (∀ (x : Int), x ∈ out → ∀ (y : Int), y ∈ out → guPre (fars, ws) x y) ∧
 SortOk (guFn (fars, ws)) out) ∧
 (0 : Int) ≤ (0 : Int) ∧
 (0 : Int) ≤ min many (↑(pdqL (guFn (fars, ws)) out).length : Int) ∧
 min many (↑(pdqL (guFn (fars, ws)) out).length : Int) ≤
 (↑(pdqL (guFn (fars, ws)) out).length : Int) ∧
 (0 : Int) = (0 : Int) ∧
 List.take
 (min many (↑(pdqL (guFn (fars, ws)) out).length : Int) -
 (0 : Int)).toNat
 (pdqL (guFn (fars, ws)) out) =
 (fuzzyGuess ws w many).fst ∧
 (0 : Int) = (fuzzyGuess ws w many).snd)))) :
 Con Try.prog f_fuzzy_Guess fuzzy_Guess_ct := ⟨fuzzy_Guess_ok.able rfl, fun x hx =>
 con_eq hC (L := [(f_slices_SortFunc___int_int_, sortFi guess_cq), (f_fuzzy_Guess_1, crFi fuzzy_Guess_1_cr)]) (⟨hU_slices_SortFunc___int_int_, cr_fok hU_fuzzy_Guess_1, trivial⟩) fuzzy_Guess_ok (ct := fuzzy_Guess_ct) (depth := 5) rfl (by kernel_rfl) x (H (@id (List (List UInt8) × List UInt8 × Int) x).1 (@id (List (List UInt8) × List UInt8 × Int) x).2.1 (@id (List (List UInt8) × List UInt8 × Int) x).2.2 (mpr' hx (by kernel_rfl))) (by kernel_rfl)⟩

theorem ref_farOf_vc (hC : Cons Try.prog [])
 (H : ∀ (a : List UInt8) (b : List UInt8), (wordPre a ∧ wordPre b) →
 inI64 ((↑a.length : Int) + 1) ∧
 (↑a.length : Int) + 1 = (↑a.length : Int) + 1 ∧
 0 ≤ (↑a.length : Int) + 1 ∧
 24 * ((↑a.length : Int) + 1).toNat ≤ 140737488355328 ∧
 ∃ (I : Int → List (List Int) → Prop),
 ∃ (m : Int → List (List Int) → Nat),
 I 0 (List.replicate ((↑a.length : Int) + 1).toNat (noRow Int)) ∧
 ∀ (x : Int) (t : List (List Int)),
 I x t →
 (x < (↑(List.replicate ((↑a.length : Int) + 1).toNat (noRow Int)).length : Int) →
 inI64 ((↑b.length : Int) + 1) ∧
 (↑b.length : Int) + 1 = (↑b.length : Int) + 1 ∧
 0 ≤ (↑b.length : Int) + 1 ∧
 8 * ((↑b.length : Int) + 1).toNat ≤ 140737488355328 ∧
 0 ≤ x ∧
 x < (↑t.length : Int) ∧
 0 ≤ x ∧
 x <
 (↑(t.set x.toNat (List.replicate ((↑b.length : Int) + 1).toNat 0)).length :
 Int) ∧
 ∃ (I_1 : Int → List (List Int) → Prop),
 ∃ (m_1 : Int → List (List Int) → Nat),
 I_1 0 (t.set x.toNat (List.replicate ((↑b.length : Int) + 1).toNat 0)) ∧
 ∀ (x_1 : Int) (t_1 : List (List Int)),
 I_1 x_1 t_1 →
 (x_1 <
 (↑(gt
 (t.set x.toNat
 (List.replicate ((↑b.length : Int) + 1).toNat 0))
 x).length :
 Int) →
 (x = 0 →
 0 ≤ x ∧
 x < (↑t_1.length : Int) ∧
 0 ≤ x_1 ∧
 x_1 < (↑(gt t_1 x).length : Int) ∧
 inI64 (x_1 + 1) ∧
 I_1 (x_1 + 1)
 (t_1.set x.toNat ((gt t_1 x).set x_1.toNat x_1)) ∧
 m_1 (x_1 + 1)
 (t_1.set x.toNat
 ((gt t_1 x).set x_1.toNat x_1)) <
 m_1 x_1 t_1) ∧
 (¬x = 0 →
 (x_1 = 0 →
 0 ≤ x ∧
 x < (↑t_1.length : Int) ∧
 0 ≤ x_1 ∧
 x_1 < (↑(gt t_1 x).length : Int) ∧
 inI64 (x_1 + 1) ∧
 I_1 (x_1 + 1)
 (t_1.set x.toNat
 ((gt t_1 x).set x_1.toNat x)) ∧
 m_1 (x_1 + 1)
 (t_1.set x.toNat
 ((gt t_1 x).set x_1.toNat x)) <
 m_1 x_1 t_1) ∧
 (¬x_1 = 0 →
 inI64 (x - 1) ∧
 0 ≤ x - 1 ∧
 x - 1 < (↑a.length : Int) ∧
 inI64 (x_1 - 1) ∧
 0 ≤ x_1 - 1 ∧
 x_1 - 1 < (↑b.length : Int) ∧
 (gt a (x - 1) = gt b (x_1 - 1) →
 0 ≤ x ∧
 x < (↑t_1.length : Int) ∧
 inI64 (x - 1) ∧
 0 ≤ x - 1 ∧
 x - 1 < (↑t_1.length : Int) ∧
 inI64 (x_1 - 1) ∧
 0 ≤ x_1 - 1 ∧
 x_1 - 1 <
 (↑(gt t_1
 (x - 1)).length :
 Int) ∧
 0 ≤ x_1 ∧
 x_1 <
 (↑(gt t_1 x).length :
 Int) ∧
 inI64 (x_1 + 1) ∧
 I_1 (x_1 + 1)
 (t_1.set x.toNat
 ((gt t_1 x).set
 x_1.toNat
 (gt
 (gt t_1
 (x - 1))
 (x_1 -
 1)))) ∧
 m_1 (x_1 + 1)
 (t_1.set x.toNat
 ((gt t_1
 x).set
 x_1.toNat
 (gt
 (gt t_1
 (x - 1))
 (x_1 -
 1)))) <
 m_1 x_1 t_1) ∧
 (¬gt a (x - 1) = gt b (x_1 - 1) →
 0 ≤ x ∧
 x < (↑t_1.length : Int) ∧
 inI64 (x - 1) ∧
 0 ≤ x - 1 ∧
 x - 1 < (↑t_1.length : Int) ∧
 inI64 (x_1 - 1) ∧
 0 ≤ x_1 - 1 ∧
 x_1 - 1 <
 (↑(gt t_1
 (x - 1)).length :
 Int) ∧
 inI64 (x - 1) ∧
 0 ≤ x - 1 ∧
 x - 1 <
 (↑t_1.length :
 Int) ∧
 0 ≤ x_1 ∧
 x_1 <
 (↑(gt t_1
 (x -
 1)).length :
 Int) ∧
 0 ≤ x ∧
 x <
 (↑t_1.length :
 Int) ∧
 inI64
 (x_1 -
 1) ∧
 0 ≤
 x_1 -
 1 ∧
 x_1 - 1 <
 (↑(gt
 t_1
 x).length :
 Int) ∧
 inI64
 (1 +
 min
 (min
 (gt
 (gt
 t_1
 (x -
 1))
 (x_1 -
 1))
 (gt
 (gt
 t_1
 (x -
 1))
 x_1))
 (gt
 (gt
 t_1
 x)
 (x_1 -
 1))) ∧
 0 ≤
 x_1 ∧
 x_1 <
 (↑(gt
 t_1
 x).length :
 Int) ∧
 inI64
 (x_1 +
 1) ∧
 I_1
 (x_1 +
 1)
 (t_1.set
 x.toNat
 ((gt
 t_1
 x).set
 x_1.toNat
 (1 +
 min
 (min
 (gt
 (gt
 t_1
 (x -
 1))
 (x_1 -
 1))
 (gt
 (gt
 t_1
 (x -
 1))
 x_1))
 (gt
 (gt
 t_1
 x)
 (x_1 -
 1))))) ∧
 m_1
 (x_1 +
 1)
 (t_1.set
 x.toNat
 ((gt
 t_1
 x).set
 x_1.toNat
 (1 +
 min
 (min
 (gt
 (gt
 t_1
 (x -
 1))
 (x_1 -
 1))
 (gt
 (gt
 t_1
 (x -
 1))
 x_1))
 (gt
 (gt
 t_1
 x)
 (x_1 -
 1))))) <
 m_1
 x_1
 t_1)))) ∧
 (¬x_1 <
 (↑(gt
 (t.set x.toNat
 (List.replicate ((↑b.length : Int) + 1).toNat 0))
 x).length :
 Int) →
 inI64 (x + 1) ∧ I (x + 1) t_1 ∧ m (x + 1) t_1 < m x t)) ∧
 (¬x < (↑(List.replicate ((↑a.length : Int) + 1).toNat (noRow Int)).length : Int) →
 0 ≤ (↑a.length : Int) ∧
 (↑a.length : Int) < (↑t.length : Int) ∧
 0 ≤ (↑b.length : Int) ∧
 (↑b.length : Int) < (↑(gt t (↑a.length : Int)).length : Int) ∧
 gt (gt t (↑a.length : Int)) (↑b.length : Int) = farOf a b)) :
 Con Try.prog f_ref_farOf ref_farOf_ct := ⟨ref_farOf_ok.able rfl, fun x hx =>
 con_eq hC (L := []) (trivial) ref_farOf_ok (ct := ref_farOf_ct) (depth := 0) rfl (by kernel_rfl) x (H (@id (List UInt8 × List UInt8) x).1 (@id (List UInt8 × List UInt8) x).2 (mpr' hx (by kernel_rfl))) (by kernel_rfl)⟩

theorem ref_FuzzyGuess_1_vc (hC : Cons Try.prog [(f_ref_farOf, ref_farOf_ct)])
 (H : ∀ (ws : List (List UInt8)) (ls : List Int) (w : List UInt8) (i : Int) (k : Int), (gcPre (ws, ls, w) (i, k)) →
 0 ≤ i ∧
 i < (↑ls.length : Int) ∧
 0 ≤ gt ls i ∧
 gt ls i < (↑ws.length : Int) ∧
 0 ≤ k ∧
 k < (↑ls.length : Int) ∧
 0 ≤ gt ls k ∧
 gt ls k < (↑ws.length : Int) ∧
 (wordPre (gt ws (gt ls i)) ∧ wordPre w) ∧
 (wordPre (gt ws (gt ls k)) ∧ wordPre w) ∧
 bo
 (farOf (gt ws (gt ls i)) w < farOf (gt ws (gt ls k)) w ∨
 farOf (gt ws (gt ls i)) w = farOf (gt ws (gt ls k)) w ∧
 Op.bytesLess (gt ws (gt ls i)) (gt ws (gt ls k)) = true) =
 bo (gLt ws w (gt ls i) (gt ls k))) :
 ConR Try.prog f_ref_FuzzyGuess_1 ref_FuzzyGuess_1_cr := ⟨ref_FuzzyGuess_1_ok.able rfl, ref_FuzzyGuess_1_cr_dec, fun k x hx ys hy =>
 conR_eq hC (L := []) (trivial) ref_FuzzyGuess_1_ok (c := ref_FuzzyGuess_1_cr) (depth := 4) rfl (m := 3) (fun _ => rfl) (by kernel_rfl) k x (H (@id (List (List UInt8) × List Int × List UInt8) k).1 (@id (List (List UInt8) × List Int × List UInt8) k).2.1 (@id (List (List UInt8) × List Int × List UInt8) k).2.2 (@id (Int × Int) x).1 (@id (Int × Int) x).2 (mpr' hx (by kernel_rfl))) (by kernel_rfl) ys hy⟩

theorem sort_insertionSort_func_vc (hC : Cons Try.prog []) (hU_ref_FuzzyGuess_1 : ConR Try.prog f_ref_FuzzyGuess_1 ref_FuzzyGuess_1_cr) (hU_internal_reflectlite_Swapper_5 : ConZ Try.prog f_internal_reflectlite_Swapper_5 swpG_cz)
 (H : ∀ (ws : List (List UInt8)) (wd : List UInt8) (ls : List Int) (a : Int) (b : Int), (0 ≤ a ∧ a ≤ b ∧ b ≤ (↑ls.length : Int) ∧ okAllD gu_q (ws, wd) ls) →
 inI64 (a + 1) ∧
 ∃ (I : Int → List Int → Prop),
 ∃ (m : Int → List Int → Nat),
 (ws = ws ∧ wd = wd ∧ I (a + 1) ls) ∧
 ∀ (i : Int) (data : List Int),
 I i data →
 (i < b →
 ∃ (I_1 : Int → List Int → Prop),
 ∃ (m_1 : Int → List Int → Nat),
 (ws = ws ∧ wd = wd ∧ I_1 i data) ∧
 ∀ (j : Int) (data_1 : List Int),
 I_1 j data_1 →
 (a < j → inI64 (j - 1)) ∧
 (a < j →
 gcPre (ws, data_1, wd) (j, j - 1) ∧
 (a < j ∧ bo (gLt ws wd (gt data_1 j) (gt data_1 (j - 1))) = true →
 inI64 (j - 1) ∧
 (0 ≤ j ∧
 j < (↑data_1.length : Int) ∧ 0 ≤ j - 1 ∧ j - 1 < (↑data_1.length : Int)) ∧
 inI64 (j - 1) ∧
 ws = ws ∧
 wd = wd ∧
 I_1 (j - 1) (swpL data_1 j (j - 1)) ∧
 m_1 (j - 1) (swpL data_1 j (j - 1)) < m_1 j data_1) ∧
 (¬(a < j ∧ bo (gLt ws wd (gt data_1 j) (gt data_1 (j - 1))) = true) →
 inI64 (i + 1) ∧
 ws = ws ∧ wd = wd ∧ I (i + 1) data_1 ∧ m (i + 1) data_1 < m i data)) ∧
 (¬a < j →
 inI64 (i + 1) ∧ ws = ws ∧ wd = wd ∧ I (i + 1) data_1 ∧ m (i + 1) data_1 < m i data)) ∧
 (¬i < b → data = seg (gLt ws wd) ls a b)) :
 ConZ Try.prog f_sort_insertionSort_func insG_cz := ⟨trivial, by kernel_rfl, insG_cz_dec, fun k ls a hx ver hv ys hy =>
 conZ_eq hC (L := [(f_ref_FuzzyGuess_1, crFi ref_FuzzyGuess_1_cr), (f_internal_reflectlite_Swapper_5, czFi swpG_cz)]) (⟨cr_fok hU_ref_FuzzyGuess_1, cz_fok hU_internal_reflectlite_Swapper_5, trivial⟩) sort_insertionSort_func_ok (c := insG_cz) (depth := 4) rfl (m := 3) (fun _ _ => rfl) (by kernel_rfl) k ls a (H (@id (List (List UInt8) × List UInt8) k).1 (@id (List (List UInt8) × List UInt8) k).2 (@id (List Int) ls) (@id (Int × Int) a).1 (@id (Int × Int) a).2 (mpr' hx (by kernel_rfl))) (by kernel_rfl) ver hv ys hy⟩

theorem sort_swapRange_func_vc (hC : Cons Try.prog []) (hU_internal_reflectlite_Swapper_5 : ConZ Try.prog f_internal_reflectlite_Swapper_5 swpG_cz)
 (H : ∀ (ws : List (List UInt8)) (wd : List UInt8) (ls : List Int) (a : Int) (b : Int) (n : Int), (0 ≤ a ∧
 0 ≤ b ∧
 0 ≤ n ∧
 a + n ≤ (↑ls.length : Int) ∧
 b + n ≤ (↑ls.length : Int) ∧ (a + n ≤ b ∨ b + n ≤ a) ∧ (↑ls.length : Int) ≤ 140737488351232) →
 ∃ (I : Int → List Int → Prop),
 ∃ (m : Int → List Int → Nat),
 (ws = ws ∧ wd = wd ∧ I 0 ls) ∧
 ∀ (i : Int) (data : List Int),
 I i data →
 (i < n →
 inI64 (a + i) ∧
 inI64 (b + i) ∧
 (0 ≤ a + i ∧ a + i < (↑data.length : Int) ∧ 0 ≤ b + i ∧ b + i < (↑data.length : Int)) ∧
 inI64 (i + 1) ∧
 ws = ws ∧
 wd = wd ∧
 I (i + 1) (swpL data (a + i) (b + i)) ∧ m (i + 1) (swpL data (a + i) (b + i)) < m i data) ∧
 (¬i < n → data = swr ls a b n)) :
 ConZ Try.prog f_sort_swapRange_func swrG_cz := ⟨trivial, by kernel_rfl, swrG_cz_dec, fun k ls a hx ver hv ys hy =>
 conZ_eq hC (L := [(f_internal_reflectlite_Swapper_5, czFi swpG_cz)]) (⟨cz_fok hU_internal_reflectlite_Swapper_5, trivial⟩) sort_swapRange_func_ok (c := swrG_cz) (depth := 4) rfl (m := 4) (fun _ _ => rfl) (by kernel_rfl) k ls a (H (@id (List (List UInt8) × List UInt8) k).1 (@id (List (List UInt8) × List UInt8) k).2 (@id (List Int) ls) (@id (Int × Int × Int) a).1 (@id (Int × Int × Int) a).2.1 (@id (Int × Int × Int) a).2.2 (mpr' hx (by kernel_rfl))) (by kernel_rfl) ver hv ys hy⟩

theorem sort_rotate_func_vc (hC : Cons Try.prog []) (hU_sort_swapRange_func : ConZ Try.prog f_sort_swapRange_func swrG_cz)
 (H : ∀ (ws : List (List UInt8)) (wd : List UInt8) (ls : List Int) (a : Int) (m : Int) (b : Int), (0 ≤ a ∧ a < m ∧ m < b ∧ b ≤ (↑ls.length : Int) ∧ (↑ls.length : Int) ≤ 140737488351232) →
 inI64 (m - a) ∧
 inI64 (b - m) ∧
 ∃ (I : Int → Int → List Int → Prop),
 ∃ (m_1 : Int → Int → List Int → Nat),
 (ws = ws ∧ wd = wd ∧ I (m - a) (b - m) ls) ∧
 ∀ (i j : Int) (data : List Int),
 I i j data →
 (i ≠ j →
 (j < i →
 inI64 (m - i) ∧
 (0 ≤ m - i ∧
 0 ≤ m ∧
 0 ≤ j ∧
 m - i + j ≤ (↑data.length : Int) ∧
 m + j ≤ (↑data.length : Int) ∧
 (m - i + j ≤ m ∨ m + j ≤ m - i) ∧ (↑data.length : Int) ≤ 140737488351232) ∧
 inI64 (i - j) ∧
 ws = ws ∧
 wd = wd ∧
 I (i - j) j (swr data (m - i) m j) ∧
 m_1 (i - j) j (swr data (m - i) m j) < m_1 i j data) ∧
 (¬j < i →
 inI64 (m - i) ∧
 inI64 (m + j) ∧
 inI64 (m + j - i) ∧
 (0 ≤ m - i ∧
 0 ≤ m + j - i ∧
 0 ≤ i ∧
 m - i + i ≤ (↑data.length : Int) ∧
 m + j - i + i ≤ (↑data.length : Int) ∧
 (m - i + i ≤ m + j - i ∨ m + j - i + i ≤ m - i) ∧
 (↑data.length : Int) ≤ 140737488351232) ∧
 inI64 (j - i) ∧
 ws = ws ∧
 wd = wd ∧
 I i (j - i) (swr data (m - i) (m + j - i) i) ∧
 m_1 i (j - i) (swr data (m - i) (m + j - i) i) < m_1 i j data)) ∧
 (¬i ≠ j →
 inI64 (m - i) ∧
 (0 ≤ m - i ∧
 0 ≤ m ∧
 0 ≤ i ∧
 m - i + i ≤ (↑data.length : Int) ∧
 m + i ≤ (↑data.length : Int) ∧
 (m - i + i ≤ m ∨ m + i ≤ m - i) ∧ (↑data.length : Int) ≤ 140737488351232) ∧
 swr data (m - i) m i = rotL ls a m b)) :
 ConZ Try.prog f_sort_rotate_func rotG_cz := ⟨trivial, by kernel_rfl, rotG_cz_dec, fun k ls a hx ver hv ys hy =>
 conZ_eq hC (L := [(f_sort_swapRange_func, czFi swrG_cz)]) (⟨cz_fok hU_sort_swapRange_func, trivial⟩) sort_rotate_func_ok (c := rotG_cz) (depth := 4) rfl (m := 4) (fun _ _ => rfl) (by kernel_rfl) k ls a (H (@id (List (List UInt8) × List UInt8) k).1 (@id (List (List UInt8) × List UInt8) k).2 (@id (List Int) ls) (@id (Int × Int × Int) a).1 (@id (Int × Int × Int) a).2.1 (@id (Int × Int × Int) a).2.2 (mpr' hx (by kernel_rfl))) (by kernel_rfl) ver hv ys hy⟩

theorem sort_symMerge_func_vc (hC : Cons Try.prog []) (n : Nat) (hU_sort_rotate_func : ConZ Try.prog f_sort_rotate_func rotG_cz) (hU_sort_symMerge_func : ConZ Try.prog f_sort_symMerge_func (symNG_cz n)) (hU_ref_FuzzyGuess_1 : ConR Try.prog f_ref_FuzzyGuess_1 ref_FuzzyGuess_1_cr) (hU_internal_reflectlite_Swapper_5 : ConZ Try.prog f_internal_reflectlite_Swapper_5 swpG_cz)
 (H : ∀ (ws : List (List UInt8)) (wd : List UInt8) (ls : List Int) (a : Int) (m : Int) (b : Int), (symPreD gu_q (ws, wd) ls a m b ∧ b - a < (↑n.succ : Int)) →
 inI64 (m - a) ∧
 (m - a = (1 : Int) →
 ∃ (I : Int → Int → Prop),
 ∃ (m_1 : Int → Int → Nat),
 (ls = ls ∧ ws = ws ∧ wd = wd ∧ I m b) ∧
 ∀ (i j : Int),
 I i j →
 (i < j →
 inI64 (i + j) ∧
 (0 : Int) ≤ (1 : Int) ∧
 inI64
 ((IntKind.u64.wrap (i + j)).fdiv ((2 : Int) ^ min (Int.toNat (1 : Int)) IntKind.u64.bits)) ∧
 gcPre (ws, ls, wd)
 ((IntKind.u64.wrap (i + j)).fdiv ((2 : Int) ^ min (Int.toNat (1 : Int)) IntKind.u64.bits),
 a) ∧
 (bo
 (gLt ws wd
 (gt ls
 ((IntKind.u64.wrap (i + j)).fdiv
 ((2 : Int) ^ min (Int.toNat (1 : Int)) IntKind.u64.bits)))
 (gt ls a)) =
 true →
 inI64
 ((IntKind.u64.wrap (i + j)).fdiv
 ((2 : Int) ^ min (Int.toNat (1 : Int)) IntKind.u64.bits) +
 (1 : Int)) ∧
 ls = ls ∧
 ws = ws ∧
 wd = wd ∧
 I
 ((IntKind.u64.wrap (i + j)).fdiv
 ((2 : Int) ^ min (Int.toNat (1 : Int)) IntKind.u64.bits) +
 (1 : Int))
 j ∧
 m_1
 ((IntKind.u64.wrap (i + j)).fdiv
 ((2 : Int) ^ min (Int.toNat (1 : Int)) IntKind.u64.bits) +
 (1 : Int))
 j <
 m_1 i j) ∧
 (¬bo
 (gLt ws wd
 (gt ls
 ((IntKind.u64.wrap (i + j)).fdiv
 ((2 : Int) ^ min (Int.toNat (1 : Int)) IntKind.u64.bits)))
 (gt ls a)) =
 true →
 ls = ls ∧
 ws = ws ∧
 wd = wd ∧
 I i
 ((IntKind.u64.wrap (i + j)).fdiv
 ((2 : Int) ^ min (Int.toNat (1 : Int)) IntKind.u64.bits)) ∧
 m_1 i
 ((IntKind.u64.wrap (i + j)).fdiv
 ((2 : Int) ^ min (Int.toNat (1 : Int)) IntKind.u64.bits)) <
 m_1 i j)) ∧
 (¬i < j →
 ∃ (I : Int → List Int → Prop),
 ∃ (m : Int → List Int → Nat),
 (ws = ws ∧ wd = wd ∧ I a ls) ∧
 ∀ (k : Int) (data : List Int),
 I k data →
 inI64 (i - (1 : Int)) ∧
 (k < i - (1 : Int) →
 inI64 (k + (1 : Int)) ∧
 ((0 : Int) ≤ k ∧
 k < (↑data.length : Int) ∧
 (0 : Int) ≤ k + (1 : Int) ∧ k + (1 : Int) < (↑data.length : Int)) ∧
 inI64 (k + (1 : Int)) ∧
 ws = ws ∧
 wd = wd ∧
 I (k + (1 : Int)) (swpL data k (k + (1 : Int))) ∧
 m (k + (1 : Int)) (swpL data k (k + (1 : Int))) < m k data) ∧
 (¬k < i - (1 : Int) → data = seg (gLt ws wd) ls a b))) ∧
 (¬m - a = (1 : Int) →
 inI64 (b - m) ∧
 (b - m = (1 : Int) →
 ∃ (I : Int → Int → Prop),
 ∃ (m_1 : Int → Int → Nat),
 (ls = ls ∧ ws = ws ∧ wd = wd ∧ I a m) ∧
 ∀ (i j : Int),
 I i j →
 (i < j →
 inI64 (i + j) ∧
 (0 : Int) ≤ (1 : Int) ∧
 inI64
 ((IntKind.u64.wrap (i + j)).fdiv
 ((2 : Int) ^ min (Int.toNat (1 : Int)) IntKind.u64.bits)) ∧
 gcPre (ws, ls, wd)
 (m,
 (IntKind.u64.wrap (i + j)).fdiv
 ((2 : Int) ^ min (Int.toNat (1 : Int)) IntKind.u64.bits)) ∧
 (¬bo
 (gLt ws wd (gt ls m)
 (gt ls
 ((IntKind.u64.wrap (i + j)).fdiv
 ((2 : Int) ^ min (Int.toNat (1 : Int)) IntKind.u64.bits)))) =
 true →
 inI64
 ((IntKind.u64.wrap (i + j)).fdiv
 ((2 : Int) ^ min (Int.toNat (1 : Int)) IntKind.u64.bits) +
 (1 : Int)) ∧
 ls = ls ∧
 ws = ws ∧
 wd = wd ∧
 I
 ((IntKind.u64.wrap (i + j)).fdiv
 ((2 : Int) ^ min (Int.toNat (1 : Int)) IntKind.u64.bits) +
 (1 : Int))
 j ∧
 m_1
 ((IntKind.u64.wrap (i + j)).fdiv
 ((2 : Int) ^ min (Int.toNat (1 : Int)) IntKind.u64.bits) +
 (1 : Int))
 j <
 m_1 i j) ∧
 (¬¬bo
 (gLt ws wd (gt ls m)
 (gt ls
 ((IntKind.u64.wrap (i + j)).fdiv
 ((2 : Int) ^ min (Int.toNat (1 : Int)) IntKind.u64.bits)))) =
 true →
 ls = ls ∧
 ws = ws ∧
 wd = wd ∧
 I i
 ((IntKind.u64.wrap (i + j)).fdiv
 ((2 : Int) ^ min (Int.toNat (1 : Int)) IntKind.u64.bits)) ∧
 m_1 i
 ((IntKind.u64.wrap (i + j)).fdiv
 ((2 : Int) ^ min (Int.toNat (1 : Int)) IntKind.u64.bits)) <
 m_1 i j)) ∧
 (¬i < j →
 ∃ (I : Int → List Int → Prop),
 ∃ (m_2 : Int → List Int → Nat),
 (ws = ws ∧ wd = wd ∧ I m ls) ∧
 ∀ (k : Int) (data : List Int),
 I k data →
 (i < k →
 inI64 (k - (1 : Int)) ∧
 ((0 : Int) ≤ k ∧
 k < (↑data.length : Int) ∧
 (0 : Int) ≤ k - (1 : Int) ∧ k - (1 : Int) < (↑data.length : Int)) ∧
 inI64 (k - (1 : Int)) ∧
 ws = ws ∧
 wd = wd ∧
 I (k - (1 : Int)) (swpL data k (k - (1 : Int))) ∧
 m_2 (k - (1 : Int)) (swpL data k (k - (1 : Int))) < m_2 k data) ∧
 (¬i < k → data = seg (gLt ws wd) ls a b))) ∧
 (¬b - m = (1 : Int) →
 inI64 (a + b) ∧
 (0 : Int) ≤ (1 : Int) ∧
 inI64 ((IntKind.u64.wrap (a + b)).fdiv ((2 : Int) ^ min (Int.toNat (1 : Int)) IntKind.u64.bits)) ∧
 inI64 ((IntKind.u64.wrap (a + b)).fdiv ((2 : Int) ^ min (Int.toNat (1 : Int)) IntKind.u64.bits) + m) ∧
 ((IntKind.u64.wrap (a + b)).fdiv ((2 : Int) ^ min (Int.toNat (1 : Int)) IntKind.u64.bits) < m →
 inI64
 ((IntKind.u64.wrap (a + b)).fdiv ((2 : Int) ^ min (Int.toNat (1 : Int)) IntKind.u64.bits) +
 m -
 b)) ∧
 inI64
 ((IntKind.u64.wrap (a + b)).fdiv ((2 : Int) ^ min (Int.toNat (1 : Int)) IntKind.u64.bits) +
 m -
 (1 : Int)) ∧
 ∃ (I : Int → Int → Prop),
 ∃ (m_1 : Int → Int → Nat),
 (ls = ls ∧
 ws = ws ∧
 wd = wd ∧
 I
 (iteP
 ((IntKind.u64.wrap (a + b)).fdiv
 ((2 : Int) ^ min (Int.toNat (1 : Int)) IntKind.u64.bits) <
 m)
 ((IntKind.u64.wrap (a + b)).fdiv
 ((2 : Int) ^ min (Int.toNat (1 : Int)) IntKind.u64.bits) +
 m -
 b)
 a)
 (iteP
 ((IntKind.u64.wrap (a + b)).fdiv
 ((2 : Int) ^ min (Int.toNat (1 : Int)) IntKind.u64.bits) <
 m)
 ((IntKind.u64.wrap (a + b)).fdiv
 ((2 : Int) ^ min (Int.toNat (1 : Int)) IntKind.u64.bits))
 m)) ∧
 ∀ (start r : Int),
 I start r →
 (start < r →
 inI64 (start + r) ∧
 (0 : Int) ≤ (1 : Int) ∧
 inI64
 ((IntKind.u64.wrap (start + r)).fdiv
 ((2 : Int) ^ min (Int.toNat (1 : Int)) IntKind.u64.bits)) ∧
 inI64
 ((IntKind.u64.wrap (a + b)).fdiv
 ((2 : Int) ^ min (Int.toNat (1 : Int)) IntKind.u64.bits) +
 m -
 (1 : Int) -
 (IntKind.u64.wrap (start + r)).fdiv
 ((2 : Int) ^ min (Int.toNat (1 : Int)) IntKind.u64.bits)) ∧
 gcPre (ws, ls, wd)
 ((IntKind.u64.wrap (a + b)).fdiv
 ((2 : Int) ^ min (Int.toNat (1 : Int)) IntKind.u64.bits) +
 m -
 (1 : Int) -
 (IntKind.u64.wrap (start + r)).fdiv
 ((2 : Int) ^ min (Int.toNat (1 : Int)) IntKind.u64.bits),
 (IntKind.u64.wrap (start + r)).fdiv
 ((2 : Int) ^ min (Int.toNat (1 : Int)) IntKind.u64.bits)) ∧
 (¬bo
 (gLt ws wd
 (gt ls
 ((IntKind.u64.wrap (a + b)).fdiv
 ((2 : Int) ^
 min (Int.toNat (1 : Int)) IntKind.u64.bits) +
 m -
 (1 : Int) -
 (IntKind.u64.wrap (start + r)).fdiv
 ((2 : Int) ^
 min (Int.toNat (1 : Int)) IntKind.u64.bits)))
 (gt ls
 ((IntKind.u64.wrap (start + r)).fdiv
 ((2 : Int) ^
 min (Int.toNat (1 : Int)) IntKind.u64.bits)))) =
 true →
 inI64
 ((IntKind.u64.wrap (start + r)).fdiv
 ((2 : Int) ^ min (Int.toNat (1 : Int)) IntKind.u64.bits) +
 (1 : Int)) ∧
 ls = ls ∧
 ws = ws ∧
 wd = wd ∧
 I
 ((IntKind.u64.wrap (start + r)).fdiv
 ((2 : Int) ^
 min (Int.toNat (1 : Int)) IntKind.u64.bits) +
 (1 : Int))
 r ∧
 m_1
 ((IntKind.u64.wrap (start + r)).fdiv
 ((2 : Int) ^
 min (Int.toNat (1 : Int)) IntKind.u64.bits) +
 (1 : Int))
 r <
 m_1 start r) ∧
 (¬¬bo
 (gLt ws wd
 (gt ls
 ((IntKind.u64.wrap (a + b)).fdiv
 ((2 : Int) ^
 min (Int.toNat (1 : Int)) IntKind.u64.bits) +
 m -
 (1 : Int) -
 (IntKind.u64.wrap (start + r)).fdiv
 ((2 : Int) ^
 min (Int.toNat (1 : Int)) IntKind.u64.bits)))
 (gt ls
 ((IntKind.u64.wrap (start + r)).fdiv
 ((2 : Int) ^
 min (Int.toNat (1 : Int)) IntKind.u64.bits)))) =
 true →
 ls = ls ∧
 ws = ws ∧
 wd = wd ∧
 I start
 ((IntKind.u64.wrap (start + r)).fdiv
 ((2 : Int) ^
 min (Int.toNat (1 : Int)) IntKind.u64.bits)) ∧
 m_1 start
 ((IntKind.u64.wrap (start + r)).fdiv
 ((2 : Int) ^
 min (Int.toNat (1 : Int)) IntKind.u64.bits)) <
 m_1 start r)) ∧
 (¬start < r →
 inI64
 ((IntKind.u64.wrap (a + b)).fdiv
 ((2 : Int) ^ min (Int.toNat (1 : Int)) IntKind.u64.bits) +
 m -
 start) ∧
 (start < m ∧
 m <
 (IntKind.u64.wrap (a + b)).fdiv
 ((2 : Int) ^ min (Int.toNat (1 : Int)) IntKind.u64.bits) +
 m -
 start →
 ((0 : Int) ≤ start ∧
 start < m ∧
 m <
 (IntKind.u64.wrap (a + b)).fdiv
 ((2 : Int) ^ min (Int.toNat (1 : Int)) IntKind.u64.bits) +
 m -
 start ∧
 (IntKind.u64.wrap (a + b)).fdiv
 ((2 : Int) ^ min (Int.toNat (1 : Int)) IntKind.u64.bits) +
 m -
 start ≤
 (↑ls.length : Int) ∧
 (↑ls.length : Int) ≤ (140737488351232 : Int)) ∧
 (a < start ∧
 start <
 (IntKind.u64.wrap (a + b)).fdiv
 ((2 : Int) ^ min (Int.toNat (1 : Int)) IntKind.u64.bits) →
 (symPreD gu_q (ws, wd)
 (rotL ls start m
 ((IntKind.u64.wrap (a + b)).fdiv
 ((2 : Int) ^
 min (Int.toNat (1 : Int)) IntKind.u64.bits) +
 m -
 start))
 a start
 ((IntKind.u64.wrap (a + b)).fdiv
 ((2 : Int) ^ min (Int.toNat (1 : Int)) IntKind.u64.bits)) ∧
 (IntKind.u64.wrap (a + b)).fdiv
 ((2 : Int) ^ min (Int.toNat (1 : Int)) IntKind.u64.bits) -
 a <
 (↑n : Int)) ∧
 ((IntKind.u64.wrap (a + b)).fdiv
 ((2 : Int) ^ min (Int.toNat (1 : Int)) IntKind.u64.bits) <
 (IntKind.u64.wrap (a + b)).fdiv
 ((2 : Int) ^
 min (Int.toNat (1 : Int)) IntKind.u64.bits) +
 m -
 start ∧
 (IntKind.u64.wrap (a + b)).fdiv
 ((2 : Int) ^
 min (Int.toNat (1 : Int)) IntKind.u64.bits) +
 m -
 start <
 b →
 (symPreD gu_q (ws, wd)
 (seg (gLt ws wd)
 (rotL ls start m
 ((IntKind.u64.wrap (a + b)).fdiv
 ((2 : Int) ^
 min (Int.toNat (1 : Int)) IntKind.u64.bits) +
 m -
 start))
 a
 ((IntKind.u64.wrap (a + b)).fdiv
 ((2 : Int) ^
 min (Int.toNat (1 : Int)) IntKind.u64.bits)))
 ((IntKind.u64.wrap (a + b)).fdiv
 ((2 : Int) ^
 min (Int.toNat (1 : Int)) IntKind.u64.bits))
 ((IntKind.u64.wrap (a + b)).fdiv
 ((2 : Int) ^
 min (Int.toNat (1 : Int)) IntKind.u64.bits) +
 m -
 start)
 b ∧
 b -
 (IntKind.u64.wrap (a + b)).fdiv
 ((2 : Int) ^
 min (Int.toNat (1 : Int)) IntKind.u64.bits) <
 (↑n : Int)) ∧
 seg (gLt ws wd)
 (seg (gLt ws wd)
 (rotL ls start m
 ((IntKind.u64.wrap (a + b)).fdiv
 ((2 : Int) ^
 min (Int.toNat (1 : Int)) IntKind.u64.bits) +
 m -
 start))
 a
 ((IntKind.u64.wrap (a + b)).fdiv
 ((2 : Int) ^
 min (Int.toNat (1 : Int)) IntKind.u64.bits)))
 ((IntKind.u64.wrap (a + b)).fdiv
 ((2 : Int) ^
 min (Int.toNat (1 : Int)) IntKind.u64.bits))
 b =
 seg (gLt ws wd) ls a b) ∧
 (¬((IntKind.u64.wrap (a + b)).fdiv
 ((2 : Int) ^
 min (Int.toNat (1 : Int)) IntKind.u64.bits) <
 (IntKind.u64.wrap (a + b)).fdiv
 ((2 : Int) ^
 min (Int.toNat (1 : Int)) IntKind.u64.bits) +
 m -
 start ∧
 (IntKind.u64.wrap (a + b)).fdiv
 ((2 : Int) ^
 min (Int.toNat (1 : Int)) IntKind.u64.bits) +
 m -
 start <
 b) →
 seg (gLt ws wd)
 (rotL ls start m
 ((IntKind.u64.wrap (a + b)).fdiv
 ((2 : Int) ^
 min (Int.toNat (1 : Int)) IntKind.u64.bits) +
 m -
 start))
 a
 ((IntKind.u64.wrap (a + b)).fdiv
 ((2 : Int) ^
 min (Int.toNat (1 : Int)) IntKind.u64.bits)) =
 seg (gLt ws wd) ls a b)) ∧
 (¬(a < start ∧
 start <
 (IntKind.u64.wrap (a + b)).fdiv
 ((2 : Int) ^ min (Int.toNat (1 : Int)) IntKind.u64.bits)) →
 ((IntKind.u64.wrap (a + b)).fdiv
 ((2 : Int) ^ min (Int.toNat (1 : Int)) IntKind.u64.bits) <
 (IntKind.u64.wrap (a + b)).fdiv
 ((2 : Int) ^
 min (Int.toNat (1 : Int)) IntKind.u64.bits) +
 m -
 start ∧
 (IntKind.u64.wrap (a + b)).fdiv
 ((2 : Int) ^
 min (Int.toNat (1 : Int)) IntKind.u64.bits) +
 m -
 start <
 b →
 (symPreD gu_q (ws, wd)
 (rotL ls start m
 ((IntKind.u64.wrap (a + b)).fdiv
 ((2 : Int) ^
 min (Int.toNat (1 : Int)) IntKind.u64.bits) +
 m -
 start))
 ((IntKind.u64.wrap (a + b)).fdiv
 ((2 : Int) ^ min (Int.toNat (1 : Int)) IntKind.u64.bits))
 ((IntKind.u64.wrap (a + b)).fdiv
 ((2 : Int) ^
 min (Int.toNat (1 : Int)) IntKind.u64.bits) +
 m -
 start)
 b ∧
 b -
 (IntKind.u64.wrap (a + b)).fdiv
 ((2 : Int) ^
 min (Int.toNat (1 : Int)) IntKind.u64.bits) <
 (↑n : Int)) ∧
 seg (gLt ws wd)
 (rotL ls start m
 ((IntKind.u64.wrap (a + b)).fdiv
 ((2 : Int) ^
 min (Int.toNat (1 : Int)) IntKind.u64.bits) +
 m -
 start))
 ((IntKind.u64.wrap (a + b)).fdiv
 ((2 : Int) ^ min (Int.toNat (1 : Int)) IntKind.u64.bits))
 b =
 seg (gLt ws wd) ls a b) ∧
 (¬((IntKind.u64.wrap (a + b)).fdiv
 ((2 : Int) ^ min (Int.toNat (1 : Int)) IntKind.u64.bits) <
 (IntKind.u64.wrap (a + b)).fdiv
 ((2 : Int) ^
 min (Int.toNat (1 : Int)) IntKind.u64.bits) +
 m -
 start ∧
 (IntKind.u64.wrap (a + b)).fdiv
 ((2 : Int) ^
 min (Int.toNat (1 : Int)) IntKind.u64.bits) +
 m -
 start <
 b) →
 rotL ls start m
 ((IntKind.u64.wrap (a + b)).fdiv
 ((2 : Int) ^
 min (Int.toNat (1 : Int)) IntKind.u64.bits) +
 m -
 start) =
 seg (gLt ws wd) ls a b))) ∧
 (¬(start < m ∧
 m <
 (IntKind.u64.wrap (a + b)).fdiv
 ((2 : Int) ^ min (Int.toNat (1 : Int)) IntKind.u64.bits) +
 m -
 start) →
 (a < start ∧
 start <
 (IntKind.u64.wrap (a + b)).fdiv
 ((2 : Int) ^ min (Int.toNat (1 : Int)) IntKind.u64.bits) →
 (symPreD gu_q (ws, wd) ls a start
 ((IntKind.u64.wrap (a + b)).fdiv
 ((2 : Int) ^ min (Int.toNat (1 : Int)) IntKind.u64.bits)) ∧
 (IntKind.u64.wrap (a + b)).fdiv
 ((2 : Int) ^ min (Int.toNat (1 : Int)) IntKind.u64.bits) -
 a <
 (↑n : Int)) ∧
 ((IntKind.u64.wrap (a + b)).fdiv
 ((2 : Int) ^ min (Int.toNat (1 : Int)) IntKind.u64.bits) <
 (IntKind.u64.wrap (a + b)).fdiv
 ((2 : Int) ^
 min (Int.toNat (1 : Int)) IntKind.u64.bits) +
 m -
 start ∧
 (IntKind.u64.wrap (a + b)).fdiv
 ((2 : Int) ^
 min (Int.toNat (1 : Int)) IntKind.u64.bits) +
 m -
 start <
 b →
 (symPreD gu_q (ws, wd)
 (seg (gLt ws wd) ls a
 ((IntKind.u64.wrap (a + b)).fdiv
 ((2 : Int) ^
 min (Int.toNat (1 : Int)) IntKind.u64.bits)))
 ((IntKind.u64.wrap (a + b)).fdiv
 ((2 : Int) ^ min (Int.toNat (1 : Int)) IntKind.u64.bits))
 ((IntKind.u64.wrap (a + b)).fdiv
 ((2 : Int) ^
 min (Int.toNat (1 : Int)) IntKind.u64.bits) +
 m -
 start)
 b ∧
 b -
 (IntKind.u64.wrap (a + b)).fdiv
 ((2 : Int) ^
 min (Int.toNat (1 : Int)) IntKind.u64.bits) <
 (↑n : Int)) ∧
 seg (gLt ws wd)
 (seg (gLt ws wd) ls a
 ((IntKind.u64.wrap (a + b)).fdiv
 ((2 : Int) ^
 min (Int.toNat (1 : Int)) IntKind.u64.bits)))
 ((IntKind.u64.wrap (a + b)).fdiv
 ((2 : Int) ^ min (Int.toNat (1 : Int)) IntKind.u64.bits))
 b =
 seg (gLt ws wd) ls a b) ∧
 (¬((IntKind.u64.wrap (a + b)).fdiv
 ((2 : Int) ^ min (Int.toNat (1 : Int)) IntKind.u64.bits) <
 (IntKind.u64.wrap (a + b)).fdiv
 ((2 : Int) ^
 min (Int.toNat (1 : Int)) IntKind.u64.bits) +
 m -
 start ∧
 (IntKind.u64.wrap (a + b)).fdiv
 ((2 : Int) ^
 min (Int.toNat (1 : Int)) IntKind.u64.bits) +
 m -
 start <
 b) →
 seg (gLt ws wd) ls a
 ((IntKind.u64.wrap (a + b)).fdiv
 ((2 : Int) ^ min (Int.toNat (1 : Int)) IntKind.u64.bits)) =
 seg (gLt ws wd) ls a b)) ∧
 (¬(a < start ∧
 start <
 (IntKind.u64.wrap (a + b)).fdiv
 ((2 : Int) ^ min (Int.toNat (1 : Int)) IntKind.u64.bits)) →
 ((IntKind.u64.wrap (a + b)).fdiv
 ((2 : Int) ^ min (Int.toNat (1 : Int)) IntKind.u64.bits) <
 (IntKind.u64.wrap (a + b)).fdiv
 ((2 : Int) ^ min (Int.toNat (1 : Int)) IntKind.u64.bits) +
 m -
 start ∧
 (IntKind.u64.wrap (a + b)).fdiv
 ((2 : Int) ^ min (Int.toNat (1 : Int)) IntKind.u64.bits) +
 m -
 start <
 b →
 (symPreD gu_q (ws, wd) ls
 ((IntKind.u64.wrap (a + b)).fdiv
 ((2 : Int) ^ min (Int.toNat (1 : Int)) IntKind.u64.bits))
 ((IntKind.u64.wrap (a + b)).fdiv
 ((2 : Int) ^
 min (Int.toNat (1 : Int)) IntKind.u64.bits) +
 m -
 start)
 b ∧
 b -
 (IntKind.u64.wrap (a + b)).fdiv
 ((2 : Int) ^ min (Int.toNat (1 : Int)) IntKind.u64.bits) <
 (↑n : Int)) ∧
 seg (gLt ws wd) ls
 ((IntKind.u64.wrap (a + b)).fdiv
 ((2 : Int) ^ min (Int.toNat (1 : Int)) IntKind.u64.bits))
 b =
 seg (gLt ws wd) ls a b) ∧
 (¬((IntKind.u64.wrap (a + b)).fdiv
 ((2 : Int) ^ min (Int.toNat (1 : Int)) IntKind.u64.bits) <
 (IntKind.u64.wrap (a + b)).fdiv
 ((2 : Int) ^
 min (Int.toNat (1 : Int)) IntKind.u64.bits) +
 m -
 start ∧
 (IntKind.u64.wrap (a + b)).fdiv
 ((2 : Int) ^
 min (Int.toNat (1 : Int)) IntKind.u64.bits) +
 m -
 start <
 b) →
 ls = seg (gLt ws wd) ls a b))))))) :
 ConZ Try.prog f_sort_symMerge_func (symNG_cz n.succ) := ⟨trivial, by kernel_rfl, (symNG_cz_dec n.succ), fun k ls a hx ver hv ys hy =>
 conZ_eq hC (L := [(f_sort_rotate_func, czFi rotG_cz), (f_sort_symMerge_func, czFi (symNG_cz n)), (f_ref_FuzzyGuess_1, crFi ref_FuzzyGuess_1_cr), (f_internal_reflectlite_Swapper_5, czFi swpG_cz)]) (⟨cz_fok hU_sort_rotate_func, cz_fok hU_sort_symMerge_func, cr_fok hU_ref_FuzzyGuess_1, cz_fok hU_internal_reflectlite_Swapper_5, trivial⟩) sort_symMerge_func_ok (c := (symNG_cz n.succ)) (depth := 4) rfl (m := 4) (fun _ _ => rfl) (by kernel_rfl) k ls a (H (@id (List (List UInt8) × List UInt8) k).1 (@id (List (List UInt8) × List UInt8) k).2 (@id (List Int) ls) (@id (Int × Int × Int) a).1 (@id (Int × Int × Int) a).2.1 (@id (Int × Int × Int) a).2.2 (mpr' hx (by kernel_rfl))) (by kernel_rfl) ver hv ys hy⟩

theorem sort_stable_func_vc (hC : Cons Try.prog []) (hU_sort_insertionSort_func : ConZ Try.prog f_sort_insertionSort_func insG_cz) (hU_sort_symMerge_func : ConZ Try.prog f_sort_symMerge_func symG_cz)
 (H : ∀ (ws : List (List UInt8)) (wd : List UInt8) (ls : List Int) (n : Int), (n = (↑ls.length : Int) ∧ okAllD gu_q (ws, wd) ls) →
 ∃ (I : Int → Int → List Int → Prop),
 ∃ (m : Int → Int → List Int → Nat),
 (ws = ws ∧ wd = wd ∧ I 0 20 ls) ∧
 ∀ (a b : Int) (data : List Int),
 I a b data →
 (b ≤ n →
 (0 ≤ a ∧ a ≤ b ∧ b ≤ (↑data.length : Int) ∧ okAllD gu_q (ws, wd) data) ∧
 inI64 (b + 20) ∧
 ws = ws ∧
 wd = wd ∧
 I b (b + 20) (seg (gLt ws wd) data a b) ∧ m b (b + 20) (seg (gLt ws wd) data a b) < m a b data) ∧
 (¬b ≤ n →
 (0 ≤ a ∧ a ≤ n ∧ n ≤ (↑data.length : Int) ∧ okAllD gu_q (ws, wd) data) ∧
 ∃ (I : Int → List Int → Prop),
 ∃ (m : Int → List Int → Nat),
 (ws = ws ∧ wd = wd ∧ I 20 (seg (gLt ws wd) data a n)) ∧
 ∀ (blockSize : Int) (data : List Int),
 I blockSize data →
 (blockSize < n →
 inI64 (2 * blockSize) ∧
 ∃ (I_1 : Int → Int → List Int → Prop),
 ∃ (m_1 : Int → Int → List Int → Nat),
 (ws = ws ∧ wd = wd ∧ I_1 0 (2 * blockSize) data) ∧
 ∀ (a b : Int) (data_1 : List Int),
 I_1 a b data_1 →
 (b ≤ n →
 inI64 (a + blockSize) ∧
 symPreD gu_q (ws, wd) data_1 a (a + blockSize) b ∧
 inI64 (2 * blockSize) ∧
 inI64 (b + 2 * blockSize) ∧
 ws = ws ∧
 wd = wd ∧
 I_1 b (b + 2 * blockSize) (seg (gLt ws wd) data_1 a b) ∧
 m_1 b (b + 2 * blockSize) (seg (gLt ws wd) data_1 a b) <
 m_1 a b data_1) ∧
 (¬b ≤ n →
 inI64 (a + blockSize) ∧
 (a + blockSize < n →
 symPreD gu_q (ws, wd) data_1 a (a + blockSize) n ∧
 inI64 (blockSize * 2) ∧
 ws = ws ∧
 wd = wd ∧
 I (blockSize * 2) (seg (gLt ws wd) data_1 a n) ∧
 m (blockSize * 2) (seg (gLt ws wd) data_1 a n) <
 m blockSize data) ∧
 (¬a + blockSize < n →
 inI64 (blockSize * 2) ∧
 ws = ws ∧
 wd = wd ∧
 I (blockSize * 2) data_1 ∧
 m (blockSize * 2) data_1 < m blockSize data))) ∧
 (¬blockSize < n → data = stab (gLt ws wd) ls))) :
 ConZ Try.prog f_sort_stable_func stbG_cz := ⟨trivial, by kernel_rfl, stbG_cz_dec, fun k ls a hx ver hv ys hy =>
 conZ_eq hC (L := [(f_sort_insertionSort_func, czFi insG_cz), (f_sort_symMerge_func, czFi symG_cz)]) (⟨cz_fok hU_sort_insertionSort_func, cz_fok hU_sort_symMerge_func, trivial⟩) sort_stable_func_ok (c := stbG_cz) (depth := 4) rfl (m := 2) (fun _ _ => rfl) (by kernel_rfl) k ls a (H (@id (List (List UInt8) × List UInt8) k).1 (@id (List (List UInt8) × List UInt8) k).2 (@id (List Int) ls) (@id (Int) a) (mpr' hx (by kernel_rfl))) (by kernel_rfl) ver hv ys hy⟩

theorem ref_FuzzyGuess_vc (hC : Cons Try.prog []) (hU_sort_SliceStable : FiOk Try.prog f_sort_SliceStable gu_sls_sf)
 (H : ∀ (ws : List (List UInt8)) (w : List UInt8) (many : Int), (wordsPre ws) →
 ((80 : Int) < (↑ws.length : Int) ∨ (20 : Int) < (↑w.length : Int) →
 [] = (fuzzyGuess ws w many).fst ∧ (1 : Int) = (fuzzyGuess ws w many).snd) ∧
 (¬((80 : Int) < (↑ws.length : Int) ∨ (20 : Int) < (↑w.length : Int)) →
 ∃ (I : Int → Prop),
 ∃ (m : Int → Nat),
 (ws = ws ∧ w = w ∧ I (0 : Int)) ∧
 ∀ (x : Int),
 I x →
 (x < (↑ws.length : Int) →
 (0 : Int) ≤ x ∧
 x < (↑ws.length : Int) ∧
 ((20 : Int) < (↑(gt ws x).length : Int) →
 [] = (fuzzyGuess ws w many).fst ∧ (1 : Int) = (fuzzyGuess ws w many).snd) ∧
 (¬(20 : Int) < (↑(gt ws x).length : Int) →
 inI64 (x + (1 : Int)) ∧ ws = ws ∧ w = w ∧ I (x + (1 : Int)) ∧ m (x + (1 : Int)) < m x)) ∧
 (¬x < (↑ws.length : Int) →
 (many < (0 : Int) → [] = (fuzzyGuess ws w many).fst ∧ (2 : Int) = (fuzzyGuess ws w many).snd) ∧
 (¬many < (0 : Int) →
 ∃ (I : Int → List Int → Prop),
 ∃ (m : Int → List Int → Nat),
 (ws = ws ∧ w = w ∧ I (0 : Int) []) ∧
 ∀ (x : Int) (out : List Int),
 I x out →
 (x < (↑ws.length : Int) →
 (out.length + (1 : Nat)) * (8 : Nat) ≤ (140737488355328 : Nat) ∧
 inI64 (x + (1 : Int)) ∧
 ws = ws ∧
 w = w ∧
 I (x + (1 : Int)) (out ++ [x]) ∧ m (x + (1 : Int)) (out ++ [x]) < m x out) ∧
 (¬x < (↑ws.length : Int) →
 (↑out.length : Int) ≤ (140737488351232 : Int) ∧
 ((↑out.length : Int) = (↑out.length : Int) ∧ okAllD gu_q (ws, w) out) ∧
 (0 : Int) ≤ (0 : Int) ∧
 (0 : Int) ≤ min many (↑(stab (gLt ws w) out).length : Int) ∧
 min many (↑(stab (gLt ws w) out).length : Int) ≤
 (↑(stab (gLt ws w) out).length : Int) ∧
 (0 : Int) = (0 : Int) ∧
 List.take
 (min many (↑(stab (gLt ws w) out).length : Int) - (0 : Int)).toNat
 (stab (gLt ws w) out) =
 (fuzzyGuess ws w many).fst ∧
 (0 : Int) = (fuzzyGuess ws w many).snd))))) :
 Con Try.prog f_ref_FuzzyGuess ref_FuzzyGuess_ct := ⟨ref_FuzzyGuess_ok.able rfl, fun x hx =>
 con_eq hC (L := [(f_sort_SliceStable, gu_sls_sf)]) (⟨hU_sort_SliceStable, trivial⟩) ref_FuzzyGuess_ok (ct := ref_FuzzyGuess_ct) (depth := 4) rfl (by kernel_rfl) x (H (@id (List (List UInt8) × List UInt8 × Int) x).1 (@id (List (List UInt8) × List UInt8 × Int) x).2.1 (@id (List (List UInt8) × List UInt8 × Int) x).2.2 (mpr' hx (by kernel_rfl))) (by kernel_rfl)⟩

theorem law_sameInts_vc (hC : Cons Try.prog [])
 (H : ∀ (a : List Int) (b : List Int), (fitL a ∧ fitL b) →
 ((↑a.length : Int) ≠ (↑b.length : Int) → false = bo (a = b)) ∧
 (¬(↑a.length : Int) ≠ (↑b.length : Int) →
 ∃ (I : Int → Prop),
 ∃ (m : Int → Nat),
 I 0 ∧
 ∀ (i : Int),
 I i →
 (i < (↑a.length : Int) →
 0 ≤ i ∧
 i < (↑a.length : Int) ∧
 0 ≤ i ∧
 i < (↑b.length : Int) ∧
 (gt a i ≠ gt b i → false = bo (a = b)) ∧
 (¬gt a i ≠ gt b i → inI64 (i + 1) ∧ I (i + 1) ∧ m (i + 1) < m i)) ∧
 (¬i < (↑a.length : Int) → true = bo (a = b)))) :
 Con Try.prog f_law_sameInts law_sameInts_ct := ⟨law_sameInts_ok.able rfl, fun x hx =>
 con_eq hC (L := []) (trivial) law_sameInts_ok (ct := law_sameInts_ct) (depth := 0) rfl (by kernel_rfl) x (H (@id (List Int × List Int) x).1 (@id (List Int × List Int) x).2 (mpr' hx (by kernel_rfl))) (by kernel_rfl)⟩

theorem law_FuzzyGuesses_vc (hC : Cons Try.prog [(f_fuzzy_Guess, fuzzy_Guess_ct), (f_ref_FuzzyGuess, ref_FuzzyGuess_ct), (f_law_sameInts, law_sameInts_ct)])
 (H : ∀ (ws : List (List UInt8)) (w : List UInt8) (many : Int), ((ws.length ≤ 140737488351232 ∧ ∀ (x : List UInt8), List.Mem x ws → x.length.le 140737488351232) ∧
 w.length.le 140737488351232 ∧ IntKind.i64.min ≤ many ∧ many ≤ IntKind.i64.max) →
 wordsPre ws ∧
 wordsPre ws ∧
 (fitL (fuzzyGuess ws w many).fst ∧ fitL (fuzzyGuess ws w many).fst) ∧
 bo
 (bo ((fuzzyGuess ws w many).fst = (fuzzyGuess ws w many).fst) = true ∧
 (fuzzyGuess ws w many).snd = (fuzzyGuess ws w many).snd) =
 true) :
 Con Try.prog f_law_FuzzyGuesses law_FuzzyGuesses_ct := ⟨law_FuzzyGuesses_ok.able rfl, fun x hx =>
 con_eq hC (L := []) (trivial) law_FuzzyGuesses_ok (ct := law_FuzzyGuesses_ct) (depth := 0) rfl (by kernel_rfl) x (H (@id (List (List UInt8) × List UInt8 × Int) x).1 (@id (List (List UInt8) × List UInt8 × Int) x).2.1 (@id (List (List UInt8) × List UInt8 × Int) x).2.2 (mpr' hx (by kernel_rfl))) (by kernel_rfl)⟩

end Go.Proofs.Ytkemhbclkglmbaa
