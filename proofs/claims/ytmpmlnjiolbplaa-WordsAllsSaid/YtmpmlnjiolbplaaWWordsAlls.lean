/- The typed conditions of the functions, printed by a program of the claim's author; each gives the contract of its function. Conditions: none. -/
import Derived.Test.YtmpmlnjiolbplaaGWordsAlls
import Derived.Test.YtmpmlnjiolbplaaVpA
import Derived.Test.YtmpmlnjiolbplaaVpB
import Derived.Test.YtmpmlnjiolbplaaVpC
import Derived.Test.YtmpmlnjiolbplaaVpWA
import Derived.Test.YtmpmlnjiolbplaaVpWB
import Derived.Test.YtmpmlnjiolbplaaW3
import Derived.Test.YtmpmlnjiolbplaaW4
import Derived.Test.YtmpmlnjiolbplaaBase
set_option linter.unusedVariables false
set_option linter.unusedSimpArgs false
set_option maxRecDepth 100000
namespace Go.Proofs.Ytmpmlnjiolbplaa
open Go.Vc Go.Fu

theorem words_part_vc (hC : Cons Try.prog [])
 (H : ∀ (c : Int), (True) →
 bo ((97 ≤ c ∧ c ≤ 122 ∨ 65 ≤ c ∧ c ≤ 90) ∨ 48 ≤ c ∧ c ≤ 57) = bo (partI c)) :
 Con Try.prog f_words_part words_part_ct := ⟨words_part_ok.able rfl, fun x hx =>
 con_eq hC (L := []) (trivial) words_part_ok (ct := words_part_ct) (depth := 0) rfl (by kernel_rfl) x (H (@id (Int) x) (mpr' hx (by kernel_rfl))) (by kernel_rfl)⟩

theorem ref_letter_vc (hC : Cons Try.prog [])
 (H : ∀ (c : Int), (True) →
 bo ((97 ≤ c ∧ c ≤ 122 ∨ 65 ≤ c ∧ c ≤ 90) ∨ 48 ≤ c ∧ c ≤ 57) = bo (partI c)) :
 Con Try.prog f_ref_letter ref_letter_ct := ⟨ref_letter_ok.able rfl, fun x hx =>
 con_eq hC (L := []) (trivial) ref_letter_ok (ct := ref_letter_ct) (depth := 0) rfl (by kernel_rfl) x (H (@id (Int) x) (mpr' hx (by kernel_rfl))) (by kernel_rfl)⟩

theorem ref_wordAt_vc (hC : Cons Try.prog [(f_ref_letter, ref_letter_ct)])
 (H : ∀ (text : List UInt8) (at_ : Int), (watPre text at_) →
 (0 < at_ → inI64 (at_ - 1)) ∧
 (0 < at_ → 0 ≤ at_ - 1) ∧
 (0 < at_ → at_ - 1 < (↑text.length : Int)) ∧
 (0 < at_ → True) ∧
 (0 < at_ ∧ bo (partI (↑(gt text (at_ - 1)).toNat : Int)) = true → [] = wordAt text at_) ∧
 (¬(0 < at_ ∧ bo (partI (↑(gt text (at_ - 1)).toNat : Int)) = true) →
 ∃ (I : Int → Prop),
 ∃ (m : Int → Nat),
 I at_ ∧
 ∀ (endQ : Int),
 I endQ →
 (endQ < (↑text.length : Int) → 0 ≤ endQ) ∧
 (endQ < (↑text.length : Int) → endQ < (↑text.length : Int)) ∧
 (endQ < (↑text.length : Int) → True) ∧
 (endQ < (↑text.length : Int) ∧ bo (partI (↑(gt text endQ).toNat : Int)) = true →
 inI64 (endQ + 1) ∧ I (endQ + 1) ∧ m (endQ + 1) < m endQ) ∧
 (¬(endQ < (↑text.length : Int) ∧ bo (partI (↑(gt text endQ).toNat : Int)) = true) →
 inI64 (endQ - at_) ∧
 (12 < endQ - at_ → [] = wordAt text at_) ∧
 (¬12 < endQ - at_ →
 0 ≤ at_ ∧
 at_ ≤ endQ ∧
 endQ ≤ (↑text.length : Int) ∧
 List.drop at_.toNat (List.take endQ.toNat text) = wordAt text at_)))) :
 Con Try.prog f_ref_wordAt ref_wordAt_ct := ⟨ref_wordAt_ok.able rfl, fun x hx =>
 con_eq hC (L := []) (trivial) ref_wordAt_ok (ct := ref_wordAt_ct) (depth := 0) rfl (by kernel_rfl) x (H (@id (List UInt8 × Int) x).1 (@id (List UInt8 × Int) x).2 (mpr' hx (by kernel_rfl))) (by kernel_rfl)⟩

theorem ref_SameWords_vc (hC : Cons Try.prog [])
 (H : ∀ (a : List (List UInt8 × List Int)) (b : List (List UInt8 × List Int)), (wtFit a ∧ wtFit b) →
 ((↑a.length : Int) ≠ (↑b.length : Int) → false = bo (a = b)) ∧
 (¬(↑a.length : Int) ≠ (↑b.length : Int) →
 ∃ (I : Int → Prop),
 ∃ (m : Int → Nat),
 I 0 ∧
 ∀ (x : Int),
 I x →
 (x < (↑a.length : Int) →
 0 ≤ x ∧
 x < (↑a.length : Int) ∧
 0 ≤ x ∧
 x < (↑b.length : Int) ∧
 (¬(gt a x).fst ≠ (gt b x).fst → 0 ≤ x) ∧
 (¬(gt a x).fst ≠ (gt b x).fst → x < (↑a.length : Int)) ∧
 (¬(gt a x).fst ≠ (gt b x).fst → 0 ≤ x) ∧
 (¬(gt a x).fst ≠ (gt b x).fst → x < (↑b.length : Int)) ∧
 ((gt a x).fst ≠ (gt b x).fst ∨
 (↑(gt a x).snd.length : Int) ≠ (↑(gt b x).snd.length : Int) →
 false = bo (a = b)) ∧
 (¬((gt a x).fst ≠ (gt b x).fst ∨
 (↑(gt a x).snd.length : Int) ≠ (↑(gt b x).snd.length : Int)) →
 0 ≤ x ∧
 x < (↑a.length : Int) ∧
 ∃ (I_1 : Int → Prop),
 ∃ (m_1 : Int → Nat),
 I_1 0 ∧
 ∀ (x_1 : Int),
 I_1 x_1 →
 (x_1 < (↑(gt a x).snd.length : Int) →
 0 ≤ x ∧
 x < (↑a.length : Int) ∧
 0 ≤ x_1 ∧
 x_1 < (↑(gt a x).snd.length : Int) ∧
 0 ≤ x ∧
 x < (↑b.length : Int) ∧
 0 ≤ x_1 ∧
 x_1 < (↑(gt b x).snd.length : Int) ∧
 (gt (gt a x).snd x_1 ≠ gt (gt b x).snd x_1 →
 false = bo (a = b)) ∧
 (¬gt (gt a x).snd x_1 ≠ gt (gt b x).snd x_1 →
 inI64 (x_1 + 1) ∧
 I_1 (x_1 + 1) ∧
 m_1 (x_1 + 1) < m_1 x_1)) ∧
 (¬x_1 < (↑(gt a x).snd.length : Int) →
 inI64 (x + 1) ∧ I (x + 1) ∧ m (x + 1) < m x))) ∧
 (¬x < (↑a.length : Int) → true = bo (a = b)))) :
 Con Try.prog f_ref_SameWords ref_SameWords_ct := ⟨ref_SameWords_ok.able rfl, fun x hx =>
 con_eq hC (L := []) (trivial) ref_SameWords_ok (ct := ref_SameWords_ct) (depth := 0) rfl (by kernel_rfl) x (H (@id ((List (List UInt8 × List Int)) × (List (List UInt8 × List Int))) x).1 (@id ((List (List UInt8 × List Int)) × (List (List UInt8 × List Int))) x).2 (mpr' hx (by kernel_rfl))) (by kernel_rfl)⟩

theorem law_WordsAlls_vc (hC : Cons Try.prog [(f_words_All, words_All_ct), (f_ref_WordsAll, ref_WordsAll_ct), (f_ref_SameWords, ref_SameWords_ct)])
 (H : ∀ (text : List UInt8), (text.length.le 140737488351232) →
 fitS text ∧
 fitS text ∧
 (wtFit (wordsAll text).fst ∧ wtFit (wordsAll text).fst) ∧
 bo (bo ((wordsAll text).fst = (wordsAll text).fst) = true ∧ (wordsAll text).snd = (wordsAll text).snd) = true) :
 Con Try.prog f_law_WordsAlls law_WordsAlls_ct := ⟨law_WordsAlls_ok.able rfl, fun x hx =>
 con_eq hC (L := []) (trivial) law_WordsAlls_ok (ct := law_WordsAlls_ct) (depth := 0) rfl (by kernel_rfl) x (H (@id (List UInt8) x) (mpr' hx (by kernel_rfl))) (by kernel_rfl)⟩

end Go.Proofs.Ytmpmlnjiolbplaa
