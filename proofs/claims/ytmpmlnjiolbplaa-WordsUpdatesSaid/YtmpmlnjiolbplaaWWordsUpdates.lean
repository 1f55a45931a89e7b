/- The typed conditions of the functions, printed by a program of the claim's author; each gives the contract of its function. Conditions: none. -/
import Derived.Test.YtmpmlnjiolbplaaGWordsUpdates
import Derived.Test.YtmpmlnjiolbplaaVpA
import Derived.Test.YtmpmlnjiolbplaaVpB
import Derived.Test.YtmpmlnjiolbplaaVpC
import Derived.Test.YtmpmlnjiolbplaaVpWA
import Derived.Test.YtmpmlnjiolbplaaVpWB
import Derived.Test.YtmpmlnjiolbplaaVpE
import Derived.Test.YtmpmlnjiolbplaaVpWU
import Derived.Test.YtmpmlnjiolbplaaVpJ
import Derived.Test.YtmpmlnjiolbplaaW7
import Derived.Test.YtmpmlnjiolbplaaW4
import Derived.Test.YtmpmlnjiolbplaaBase
set_option linter.unusedVariables false
set_option linter.unusedSimpArgs false
set_option maxRecDepth 100000
namespace Go.Proofs.Ytmpmlnjiolbplaa
open Go.Vc Go.Fu

theorem words_part_vc (hC : Cons Try.prog [])
 (H : ∀ (c : Int), (True) →
 bo ((97 ≤ c ∧ c ≤ 122 ∨ 65 ≤ c ∧ c ≤ 90) ∨ 48 ≤ c ∧ c ≤ 57) = bo (partI c)) :
 Con Try.prog f_words_part words_part_ct := ⟨words_part_ok.able rfl, fun x hx =>
 con_eq hC (L := []) (trivial) words_part_ok (ct := words_part_ct) (depth := 0) rfl (by kernel_rfl) x (H (@id (Int) x) (mpr' hx (by kernel_rfl))) (by kernel_rfl)⟩

theorem words_Around_vc (hC : Cons Try.prog [(f_words_part, words_part_ct)])
 (H : ∀ (text : List UInt8) (lo : Int) (hi : Int), (arPre text lo hi) →
 ∃ (I : Int → Prop),
 ∃ (m : Int → Nat),
 I lo ∧
 ∀ (lo_1 : Int),
 I lo_1 →
 (0 < lo_1 → inI64 (lo_1 - 1)) ∧
 (0 < lo_1 → 0 ≤ lo_1 - 1) ∧
 (0 < lo_1 → lo_1 - 1 < (↑text.length : Int)) ∧
 (0 < lo_1 → True) ∧
 (0 < lo_1 ∧ bo (partI (↑(gt text (lo_1 - 1)).toNat : Int)) = true →
 inI64 (lo_1 - 1) ∧ I (lo_1 - 1) ∧ m (lo_1 - 1) < m lo_1) ∧
 (¬(0 < lo_1 ∧ bo (partI (↑(gt text (lo_1 - 1)).toNat : Int)) = true) →
 ∃ (I : Int → Prop),
 ∃ (m : Int → Nat),
 I hi ∧
 ∀ (hi_1 : Int),
 I hi_1 →
 (hi_1 < (↑text.length : Int) → 0 ≤ hi_1) ∧
 (hi_1 < (↑text.length : Int) → hi_1 < (↑text.length : Int)) ∧
 (hi_1 < (↑text.length : Int) → True) ∧
 (hi_1 < (↑text.length : Int) ∧ bo (partI (↑(gt text hi_1).toNat : Int)) = true →
 inI64 (hi_1 + 1) ∧ I (hi_1 + 1) ∧ m (hi_1 + 1) < m hi_1) ∧
 (¬(hi_1 < (↑text.length : Int) ∧
 bo (partI (↑(gt text hi_1).toNat : Int)) = true) →
 lo_1 = (around text lo hi).fst ∧ hi_1 = (around text lo hi).snd))) :
 Con Try.prog f_words_Around words_Around_ct := ⟨words_Around_ok.able rfl, fun x hx =>
 con_eq hC (L := []) (trivial) words_Around_ok (ct := words_Around_ct) (depth := 0) rfl (by kernel_rfl) x (H (@id (List UInt8 × Int × Int) x).1 (@id (List UInt8 × Int × Int) x).2.1 (@id (List UInt8 × Int × Int) x).2.2 (mpr' hx (by kernel_rfl))) (by kernel_rfl)⟩

theorem slices_Equal___int_int__vc (hC : Cons Try.prog [])
 (H : ∀ (a : List Int) (b : List Int), (fitL a ∧ fitL b) →
 ((↑a.length : Int) ≠ (↑b.length : Int) → false = bo (a = b)) ∧
 (¬(↑a.length : Int) ≠ (↑b.length : Int) →
 ∃ (I : Int → Prop),
 ∃ (m : Int → Nat),
 I 0 ∧
 ∀ (x : Int),
 I x →
 (x < (↑a.length : Int) →
 0 ≤ x ∧
 x < (↑a.length : Int) ∧
 0 ≤ x ∧
 x < (↑b.length : Int) ∧
 (gt a x ≠ gt b x → false = bo (a = b)) ∧
 (¬gt a x ≠ gt b x → inI64 (x + 1) ∧ I (x + 1) ∧ m (x + 1) < m x)) ∧
 (¬x < (↑a.length : Int) → true = bo (a = b)))) :
 Con Try.prog f_slices_Equal___int_int_ slices_Equal___int_int__ct := ⟨slices_Equal___int_int__ok.able rfl, fun x hx =>
 con_eq hC (L := []) (trivial) slices_Equal___int_int__ok (ct := slices_Equal___int_int__ct) (depth := 0) rfl (by kernel_rfl) x (H (@id (List Int × List Int) x).1 (@id (List Int × List Int) x).2 (mpr' hx (by kernel_rfl))) (by kernel_rfl)⟩

theorem words_Update_1_vc (hC : Cons Try.prog [(f_slices_Equal___int_int_, slices_Equal___int_int__ct)])
 (H : ∀ (a : List UInt8 × List Int) (b : List UInt8 × List Int), (wdFit a ∧ wdFit b) →
 (a.fst = b.fst → fitL a.snd ∧ fitL b.snd) ∧ bo (a.fst = b.fst ∧ bo (a.snd = b.snd) = true) = bo (a = b)) :
 Con Try.prog f_words_Update_1 words_Update_1_ct := ⟨words_Update_1_ok.able rfl, fun x hx =>
 con_eq hC (L := []) (trivial) words_Update_1_ok (ct := words_Update_1_ct) (depth := 0) rfl (by kernel_rfl) x (H (@id ((List UInt8 × List Int) × (List UInt8 × List Int)) x).1 (@id ((List UInt8 × List Int) × (List UInt8 × List Int)) x).2 (mpr' hx (by kernel_rfl))) (by kernel_rfl)⟩

theorem edit_Check_vc (hC : Cons Try.prog [])
 (H : ∀ (size : Int) (e : Int × Int × List UInt8), (inI64 size ∧ editFits e) →
 (¬((((size < 0 ∨ 600 < size) ∨ e.fst < 0) ∨ size < e.fst) ∨ e.snd.fst < 0) → inI64 (size - e.fst)) ∧
 (((((size < 0 ∨ 600 < size) ∨ e.fst < 0) ∨ size < e.fst) ∨ e.snd.fst < 0) ∨ size - e.fst < e.snd.fst →
 2 = editFault size e) ∧
 (¬(((((size < 0 ∨ 600 < size) ∨ e.fst < 0) ∨ size < e.fst) ∨ e.snd.fst < 0) ∨ size - e.fst < e.snd.fst) →
 inI64 (size - e.snd.fst) ∧
 inI64 (size - e.snd.fst + (↑e.snd.snd.length : Int)) ∧
 (600 < size - e.snd.fst + (↑e.snd.snd.length : Int) → 1 = editFault size e) ∧
 (¬600 < size - e.snd.fst + (↑e.snd.snd.length : Int) → 0 = editFault size e))) :
 Con Try.prog f_edit_Check edit_Check_ct := ⟨edit_Check_ok.able rfl, fun x hx =>
 con_eq hC (L := []) (trivial) edit_Check_ok (ct := edit_Check_ct) (depth := 0) rfl (by kernel_rfl) x (H (@id (Int × (Int × Int × List UInt8)) x).1 (@id (Int × (Int × Int × List UInt8)) x).2 (mpr' hx (by kernel_rfl))) (by kernel_rfl)⟩

theorem edit_Made_vc (hC : Cons Try.prog [])
 (H : ∀ (text : List UInt8) (e : Int × Int × List UInt8), (editMay (↑text.length : Int) e) →
 (0 : Int) ≤ (0 : Int) ∧
 (0 : Int) ≤ e.fst ∧
 e.fst ≤ (↑text.length : Int) ∧
 inI64
 ((↑(List.drop (Int.toNat (0 : Int)) (List.take e.fst.toNat text)).length : Int) + (↑e.snd.snd.length : Int)) ∧
 inI64 (e.fst + e.snd.fst) ∧
 (0 : Int) ≤ e.fst + e.snd.fst ∧
 e.fst + e.snd.fst ≤ (↑text.length : Int) ∧
 (↑text.length : Int) ≤ (↑text.length : Int) ∧
 inI64
 ((↑(List.drop (Int.toNat (0 : Int)) (List.take e.fst.toNat text) ++ e.snd.snd).length : Int) +
 (↑(List.drop (e.fst + e.snd.fst).toNat (List.take (↑text.length : Int).toNat text)).length :
 Int)) ∧
 List.drop (Int.toNat (0 : Int)) (List.take e.fst.toNat text) ++ e.snd.snd ++
 List.drop (e.fst + e.snd.fst).toNat (List.take (↑text.length : Int).toNat text) =
 editMade text e) :
 Con Try.prog f_edit_Made edit_Made_ct := ⟨edit_Made_ok.able rfl, fun x hx =>
 con_eq hC (L := []) (trivial) edit_Made_ok (ct := edit_Made_ct) (depth := 0) rfl (by kernel_rfl) x (H (@id (List UInt8 × (Int × Int × List UInt8)) x).1 (@id (List UInt8 × (Int × Int × List UInt8)) x).2 (mpr' hx (by kernel_rfl))) (by kernel_rfl)⟩

theorem ref_letter_vc (hC : Cons Try.prog [])
 (H : ∀ (c : Int), (True) →
 bo ((97 ≤ c ∧ c ≤ 122 ∨ 65 ≤ c ∧ c ≤ 90) ∨ 48 ≤ c ∧ c ≤ 57) = bo (partI c)) :
 Con Try.prog f_ref_letter ref_letter_ct := ⟨ref_letter_ok.able rfl, fun x hx =>
 con_eq hC (L := []) (trivial) ref_letter_ok (ct := ref_letter_ct) (depth := 0) rfl (by kernel_rfl) x (H (@id (Int) x) (mpr' hx (by kernel_rfl))) (by kernel_rfl)⟩

theorem ref_wordAt_vc (hC : Cons Try.prog [(f_ref_letter, ref_letter_ct)])
 (H : ∀ (text : List UInt8) (at_ : Int), (watPre text at_) →
 (0 < at_ → inI64 (at_ - 1)) ∧
 (0 < at_ → 0 ≤ at_ - 1) ∧
 (0 < at_ → at_ - 1 < (↑text.length : Int)) ∧
 (0 < at_ → True) ∧
 (0 < at_ ∧ bo (partI (↑(gt text (at_ - 1)).toNat : Int)) = true → [] = wordAt text at_) ∧
 (¬(0 < at_ ∧ bo (partI (↑(gt text (at_ - 1)).toNat : Int)) = true) →
 ∃ (I : Int → Prop),
 ∃ (m : Int → Nat),
 I at_ ∧
 ∀ (endQ : Int),
 I endQ →
 (endQ < (↑text.length : Int) → 0 ≤ endQ) ∧
 (endQ < (↑text.length : Int) → endQ < (↑text.length : Int)) ∧
 (endQ < (↑text.length : Int) → True) ∧
 (endQ < (↑text.length : Int) ∧ bo (partI (↑(gt text endQ).toNat : Int)) = true →
 inI64 (endQ + 1) ∧ I (endQ + 1) ∧ m (endQ + 1) < m endQ) ∧
 (¬(endQ < (↑text.length : Int) ∧ bo (partI (↑(gt text endQ).toNat : Int)) = true) →
 inI64 (endQ - at_) ∧
 (12 < endQ - at_ → [] = wordAt text at_) ∧
 (¬12 < endQ - at_ →
 0 ≤ at_ ∧
 at_ ≤ endQ ∧
 endQ ≤ (↑text.length : Int) ∧
 List.drop at_.toNat (List.take endQ.toNat text) = wordAt text at_)))) :
 Con Try.prog f_ref_wordAt ref_wordAt_ct := ⟨ref_wordAt_ok.able rfl, fun x hx =>
 con_eq hC (L := []) (trivial) ref_wordAt_ok (ct := ref_wordAt_ct) (depth := 0) rfl (by kernel_rfl) x (H (@id (List UInt8 × Int) x).1 (@id (List UInt8 × Int) x).2 (mpr' hx (by kernel_rfl))) (by kernel_rfl)⟩

theorem ref_SameWords_vc (hC : Cons Try.prog [])
 (H : ∀ (a : List (List UInt8 × List Int)) (b : List (List UInt8 × List Int)), (wtFit a ∧ wtFit b) →
 ((↑a.length : Int) ≠ (↑b.length : Int) → false = bo (a = b)) ∧
 (¬(↑a.length : Int) ≠ (↑b.length : Int) →
 ∃ (I : Int → Prop),
 ∃ (m : Int → Nat),
 I 0 ∧
 ∀ (x : Int),
 I x →
 (x < (↑a.length : Int) →
 0 ≤ x ∧
 x < (↑a.length : Int) ∧
 0 ≤ x ∧
 x < (↑b.length : Int) ∧
 (¬(gt a x).fst ≠ (gt b x).fst → 0 ≤ x) ∧
 (¬(gt a x).fst ≠ (gt b x).fst → x < (↑a.length : Int)) ∧
 (¬(gt a x).fst ≠ (gt b x).fst → 0 ≤ x) ∧
 (¬(gt a x).fst ≠ (gt b x).fst → x < (↑b.length : Int)) ∧
 ((gt a x).fst ≠ (gt b x).fst ∨
 (↑(gt a x).snd.length : Int) ≠ (↑(gt b x).snd.length : Int) →
 false = bo (a = b)) ∧
 (¬((gt a x).fst ≠ (gt b x).fst ∨
 (↑(gt a x).snd.length : Int) ≠ (↑(gt b x).snd.length : Int)) →
 0 ≤ x ∧
 x < (↑a.length : Int) ∧
 ∃ (I_1 : Int → Prop),
 ∃ (m_1 : Int → Nat),
 I_1 0 ∧
 ∀ (x_1 : Int),
 I_1 x_1 →
 (x_1 < (↑(gt a x).snd.length : Int) →
 0 ≤ x ∧
 x < (↑a.length : Int) ∧
 0 ≤ x_1 ∧
 x_1 < (↑(gt a x).snd.length : Int) ∧
 0 ≤ x ∧
 x < (↑b.length : Int) ∧
 0 ≤ x_1 ∧
 x_1 < (↑(gt b x).snd.length : Int) ∧
 (gt (gt a x).snd x_1 ≠ gt (gt b x).snd x_1 →
 false = bo (a = b)) ∧
 (¬gt (gt a x).snd x_1 ≠ gt (gt b x).snd x_1 →
 inI64 (x_1 + 1) ∧
 I_1 (x_1 + 1) ∧
 m_1 (x_1 + 1) < m_1 x_1)) ∧
 (¬x_1 < (↑(gt a x).snd.length : Int) →
 inI64 (x + 1) ∧ I (x + 1) ∧ m (x + 1) < m x))) ∧
 (¬x < (↑a.length : Int) → true = bo (a = b)))) :
 Con Try.prog f_ref_SameWords ref_SameWords_ct := ⟨ref_SameWords_ok.able rfl, fun x hx =>
 con_eq hC (L := []) (trivial) ref_SameWords_ok (ct := ref_SameWords_ct) (depth := 0) rfl (by kernel_rfl) x (H (@id ((List (List UInt8 × List Int)) × (List (List UInt8 × List Int))) x).1 (@id ((List (List UInt8 × List Int)) × (List (List UInt8 × List Int))) x).2 (mpr' hx (by kernel_rfl))) (by kernel_rfl)⟩

theorem ref_EditFault_vc (hC : Cons Try.prog [])
 (H : ∀ (size : Int) (e : Int × Int × List UInt8), (inI64 size ∧ editFits e) →
 (¬(((((size < 0 ∨ 600 < size) ∨ e.fst < 0) ∨ e.snd.fst < 0) ∨ size < e.fst) ∨ size < e.snd.fst) →
 inI64 (e.fst + e.snd.fst)) ∧
 ((((((size < 0 ∨ 600 < size) ∨ e.fst < 0) ∨ e.snd.fst < 0) ∨ size < e.fst) ∨ size < e.snd.fst) ∨
 size < e.fst + e.snd.fst →
 2 = editFault size e) ∧
 (¬((((((size < 0 ∨ 600 < size) ∨ e.fst < 0) ∨ e.snd.fst < 0) ∨ size < e.fst) ∨ size < e.snd.fst) ∨
 size < e.fst + e.snd.fst) →
 inI64 (size + (↑e.snd.snd.length : Int)) ∧
 inI64 (size + (↑e.snd.snd.length : Int) - e.snd.fst) ∧
 (600 < size + (↑e.snd.snd.length : Int) - e.snd.fst → 1 = editFault size e) ∧
 (¬600 < size + (↑e.snd.snd.length : Int) - e.snd.fst → 0 = editFault size e))) :
 Con Try.prog f_ref_EditFault ref_EditFault_ct := ⟨ref_EditFault_ok.able rfl, fun x hx =>
 con_eq hC (L := []) (trivial) ref_EditFault_ok (ct := ref_EditFault_ct) (depth := 0) rfl (by kernel_rfl) x (H (@id (Int × (Int × Int × List UInt8)) x).1 (@id (Int × (Int × Int × List UInt8)) x).2 (mpr' hx (by kernel_rfl))) (by kernel_rfl)⟩

theorem ref_editMade_vc (hC : Cons Try.prog [])
 (H : ∀ (text : List UInt8) (e : Int × Int × List UInt8), (editMay (↑text.length : Int) e) →
 ∃ (I : List UInt8 → Int → Prop),
 ∃ (m : List UInt8 → Int → Nat),
 (e.fst = e.fst ∧ e.snd.fst = e.snd.fst ∧ e.snd.snd = e.snd.snd ∧ I [] 0) ∧
 ∀ (out : List UInt8) (i : Int),
 I out i →
 (i ≤ (↑text.length : Int) →
 (i = e.fst → inI64 ((↑out.length : Int) + (↑e.snd.snd.length : Int))) ∧
 (i < (↑text.length : Int) ∧ ¬i < e.fst → inI64 (e.fst + e.snd.fst)) ∧
 (i < (↑text.length : Int) ∧ (i < e.fst ∨ e.fst + e.snd.fst ≤ i) → inI64 (i + 1)) ∧
 (i < (↑text.length : Int) ∧ (i < e.fst ∨ e.fst + e.snd.fst ≤ i) → 0 ≤ i) ∧
 (i < (↑text.length : Int) ∧ (i < e.fst ∨ e.fst + e.snd.fst ≤ i) → i ≤ i + 1) ∧
 (i < (↑text.length : Int) ∧ (i < e.fst ∨ e.fst + e.snd.fst ≤ i) →
 i + 1 ≤ (↑text.length : Int)) ∧
 (i < (↑text.length : Int) ∧ (i < e.fst ∨ e.fst + e.snd.fst ≤ i) →
 inI64
 ((↑(iteP (i = e.fst) (out ++ e.snd.snd) out).length : Int) +
 (↑(List.drop i.toNat (List.take (i + 1).toNat text)).length : Int))) ∧
 inI64 (i + 1) ∧
 e.fst = e.fst ∧
 e.snd.fst = e.snd.fst ∧
 e.snd.snd = e.snd.snd ∧
 I
 (iteP (i < (↑text.length : Int) ∧ (i < e.fst ∨ e.fst + e.snd.fst ≤ i))
 (iteP (i = e.fst) (out ++ e.snd.snd) out ++
 List.drop i.toNat (List.take (i + 1).toNat text))
 (iteP (i = e.fst) (out ++ e.snd.snd) out))
 (i + 1) ∧
 m
 (iteP (i < (↑text.length : Int) ∧ (i < e.fst ∨ e.fst + e.snd.fst ≤ i))
 (iteP (i = e.fst) (out ++ e.snd.snd) out ++
 List.drop i.toNat (List.take (i + 1).toNat text))
 (iteP (i = e.fst) (out ++ e.snd.snd) out))
 (i + 1) <
 m out i) ∧
 (¬i ≤ (↑text.length : Int) → out = editMade text e)) :
 Con Try.prog f_ref_editMade ref_editMade_ct := ⟨ref_editMade_ok.able rfl, fun x hx =>
 con_eq hC (L := []) (trivial) ref_editMade_ok (ct := ref_editMade_ct) (depth := 0) rfl (by kernel_rfl) x (H (@id (List UInt8 × (Int × Int × List UInt8)) x).1 (@id (List UInt8 × (Int × Int × List UInt8)) x).2 (mpr' hx (by kernel_rfl))) (by kernel_rfl)⟩

theorem ref_WordsUpdate_vc (hC : Cons Try.prog [(f_ref_WordsAll, ref_WordsAll_ct), (f_ref_SameWords, ref_SameWords_ct), (f_ref_EditFault, ref_EditFault_ct), (f_ref_editMade, ref_editMade_ct)])
 (H : ∀ (text : List UInt8) (words : List (List UInt8 × List Int)) (e : Int × Int × List UInt8), (fitS text ∧ wtFit words ∧ editFits e) →
 fitS text ∧
 ((wordsAll text).snd ≠ 0 →
 [] = (wordsUpdate text words e).fst ∧ (wordsAll text).snd = (wordsUpdate text words e).snd) ∧
 (¬(wordsAll text).snd ≠ 0 →
 (wtFit (wordsAll text).fst ∧ wtFit words) ∧
 (¬bo ((wordsAll text).fst = words) = true →
 [] = (wordsUpdate text words e).fst ∧ 4 = (wordsUpdate text words e).snd) ∧
 (¬¬bo ((wordsAll text).fst = words) = true →
 (inI64 (↑text.length : Int) ∧ editFits (e.fst, e.snd.fst, e.snd.snd)) ∧
 (editFault (↑text.length : Int) (e.fst, e.snd.fst, e.snd.snd) ≠ 0 →
 [] = (wordsUpdate text words e).fst ∧
 editFault (↑text.length : Int) (e.fst, e.snd.fst, e.snd.snd) = (wordsUpdate text words e).snd) ∧
 (¬editFault (↑text.length : Int) (e.fst, e.snd.fst, e.snd.snd) ≠ 0 →
 editMay (↑text.length : Int) (e.fst, e.snd.fst, e.snd.snd) ∧
 fitS (editMade text (e.fst, e.snd.fst, e.snd.snd)) ∧
 (wordsAll (editMade text (e.fst, e.snd.fst, e.snd.snd))).fst = (wordsUpdate text words e).fst ∧
 (wordsAll (editMade text (e.fst, e.snd.fst, e.snd.snd))).snd = (wordsUpdate text words e).snd)))) :
 Con Try.prog f_ref_WordsUpdate ref_WordsUpdate_ct := ⟨ref_WordsUpdate_ok.able rfl, fun x hx =>
 con_eq hC (L := []) (trivial) ref_WordsUpdate_ok (ct := ref_WordsUpdate_ct) (depth := 0) rfl (by kernel_rfl) x (H (@id (List UInt8 × (List (List UInt8 × List Int)) × (Int × Int × List UInt8)) x).1 (@id (List UInt8 × (List (List UInt8 × List Int)) × (Int × Int × List UInt8)) x).2.1 (@id (List UInt8 × (List (List UInt8 × List Int)) × (Int × Int × List UInt8)) x).2.2 (mpr' hx (by kernel_rfl))) (by kernel_rfl)⟩

theorem law_WordsUpdates_vc (hC : Cons Try.prog [(f_words_Update, words_Update_ct), (f_ref_WordsUpdate, ref_WordsUpdate_ct), (f_ref_SameWords, ref_SameWords_ct)])
 (H : ∀ (text : List UInt8) (l : List (List UInt8 × List Int)) (e : Int × Int × List UInt8), (text.length.le 140737488351232 ∧
 (l.length ≤ 140737488351232 ∧
 ∀ (x : List UInt8 × List Int),
 List.Mem x l →
 x.1.length.le 140737488351232 ∧
 x.2.length ≤ 140737488351232 ∧
 ∀ (x_1 : Int), List.Mem x_1 x.2 → IntKind.i64.min ≤ x_1 ∧ x_1 ≤ IntKind.i64.max) ∧
 (IntKind.i64.min ≤ e.1 ∧ e.1 ≤ IntKind.i64.max) ∧
 (IntKind.i64.min ≤ e.2.1 ∧ e.2.1 ≤ IntKind.i64.max) ∧ e.2.2.length.le 140737488351232) →
 (fitS text ∧ wtFit l ∧ editFits (e.fst, e.snd.fst, e.snd.snd)) ∧
 (fitS text ∧ wtFit l ∧ editFits (e.fst, e.snd.fst, e.snd.snd)) ∧
 (wtFit (wordsUpdate text l (e.fst, e.snd.fst, e.snd.snd)).fst ∧
 wtFit (wordsUpdate text l (e.fst, e.snd.fst, e.snd.snd)).fst) ∧
 bo
 (bo
 ((wordsUpdate text l (e.fst, e.snd.fst, e.snd.snd)).fst =
 (wordsUpdate text l (e.fst, e.snd.fst, e.snd.snd)).fst) =
 true ∧
 (wordsUpdate text l (e.fst, e.snd.fst, e.snd.snd)).snd =
 (wordsUpdate text l (e.fst, e.snd.fst, e.snd.snd)).snd) =
 true) :
 Con Try.prog f_law_WordsUpdates law_WordsUpdates_ct := ⟨law_WordsUpdates_ok.able rfl, fun x hx =>
 con_eq hC (L := []) (trivial) law_WordsUpdates_ok (ct := law_WordsUpdates_ct) (depth := 0) rfl (by kernel_rfl) x (H (@id (List UInt8 × (List (List UInt8 × List Int)) × (Int × Int × List UInt8)) x).1 (@id (List UInt8 × (List (List UInt8 × List Int)) × (Int × Int × List UInt8)) x).2.1 (@id (List UInt8 × (List (List UInt8 × List Int)) × (Int × Int × List UInt8)) x).2.2 (mpr' hx (by kernel_rfl))) (by kernel_rfl)⟩

end Go.Proofs.Ytmpmlnjiolbplaa
