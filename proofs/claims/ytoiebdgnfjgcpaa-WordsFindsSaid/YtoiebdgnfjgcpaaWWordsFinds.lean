/- The typed conditions of the functions, printed by a program of the claim's author; each gives the contract of its function. Conditions: none. -/
import Derived.Test.YtoiebdgnfjgcpaaGWordsFinds
import Derived.Test.YtoiebdgnfjgcpaaVpA
import Derived.Test.YtoiebdgnfjgcpaaVpB
import Derived.Test.YtoiebdgnfjgcpaaVpC
import Derived.Test.YtoiebdgnfjgcpaaVpWA
import Derived.Test.YtoiebdgnfjgcpaaW1
import Derived.Test.YtoiebdgnfjgcpaaBase
set_option linter.unusedVariables false
set_option linter.unusedSimpArgs false
set_option maxRecDepth 100000
namespace Go.Proofs.Ytoiebdgnfjgcpaa
open Go.Vc Go.Fu

theorem words_part_vc (hC : Cons Try.prog [])
 (H : ∀ (c : Int), (True) →
 bo ((97 ≤ c ∧ c ≤ 122 ∨ 65 ≤ c ∧ c ≤ 90) ∨ 48 ≤ c ∧ c ≤ 57) = bo (partI c)) :
 Con Try.prog f_words_part words_part_ct := ⟨words_part_ok.able rfl, fun x hx =>
 con_eq hC (L := []) (trivial) words_part_ok (ct := words_part_ct) (depth := 0) rfl (by kernel_rfl) x (H (@id (Int) x) (mpr' hx (by kernel_rfl))) (by kernel_rfl)⟩

theorem words_Noted_vc (hC : Cons Try.prog [(f_words_part, words_part_ct)])
 (H : ∀ (w : List UInt8), (fitS w) →
 ∃ (I : Int → Prop),
 ∃ (m : Int → Nat),
 I 0 ∧
 ∀ (x : Int),
 I x →
 (x < (↑w.length : Int) →
 0 ≤ x ∧
 x < (↑w.length : Int) ∧
 True ∧
 (¬bo (partI (↑(gt w x).toNat : Int)) = true → false = bo (isWord w)) ∧
 (¬¬bo (partI (↑(gt w x).toNat : Int)) = true → inI64 (x + 1) ∧ I (x + 1) ∧ m (x + 1) < m x)) ∧
 (¬x < (↑w.length : Int) → bo (w ≠ [] ∧ (↑w.length : Int) ≤ 12) = bo (isWord w))) :
 Con Try.prog f_words_Noted words_Noted_ct := ⟨words_Noted_ok.able rfl, fun x hx =>
 con_eq hC (L := []) (trivial) words_Noted_ok (ct := words_Noted_ct) (depth := 0) rfl (by kernel_rfl) x (H (@id (List UInt8) x) (mpr' hx (by kernel_rfl))) (by kernel_rfl)⟩

theorem ref_letter_vc (hC : Cons Try.prog [])
 (H : ∀ (c : Int), (True) →
 bo ((97 ≤ c ∧ c ≤ 122 ∨ 65 ≤ c ∧ c ≤ 90) ∨ 48 ≤ c ∧ c ≤ 57) = bo (partI c)) :
 Con Try.prog f_ref_letter ref_letter_ct := ⟨ref_letter_ok.able rfl, fun x hx =>
 con_eq hC (L := []) (trivial) ref_letter_ok (ct := ref_letter_ct) (depth := 0) rfl (by kernel_rfl) x (H (@id (Int) x) (mpr' hx (by kernel_rfl))) (by kernel_rfl)⟩

theorem ref_wordAt_vc (hC : Cons Try.prog [(f_ref_letter, ref_letter_ct)])
 (H : ∀ (text : List UInt8) (at_ : Int), (watPre text at_) →
 (0 < at_ → inI64 (at_ - 1)) ∧
 (0 < at_ → 0 ≤ at_ - 1) ∧
 (0 < at_ → at_ - 1 < (↑text.length : Int)) ∧
 (0 < at_ → True) ∧
 (0 < at_ ∧ bo (partI (↑(gt text (at_ - 1)).toNat : Int)) = true → [] = wordAt text at_) ∧
 (¬(0 < at_ ∧ bo (partI (↑(gt text (at_ - 1)).toNat : Int)) = true) →
 ∃ (I : Int → Prop),
 ∃ (m : Int → Nat),
 I at_ ∧
 ∀ (endQ : Int),
 I endQ →
 (endQ < (↑text.length : Int) → 0 ≤ endQ) ∧
 (endQ < (↑text.length : Int) → endQ < (↑text.length : Int)) ∧
 (endQ < (↑text.length : Int) → True) ∧
 (endQ < (↑text.length : Int) ∧ bo (partI (↑(gt text endQ).toNat : Int)) = true →
 inI64 (endQ + 1) ∧ I (endQ + 1) ∧ m (endQ + 1) < m endQ) ∧
 (¬(endQ < (↑text.length : Int) ∧ bo (partI (↑(gt text endQ).toNat : Int)) = true) →
 inI64 (endQ - at_) ∧
 (12 < endQ - at_ → [] = wordAt text at_) ∧
 (¬12 < endQ - at_ →
 0 ≤ at_ ∧
 at_ ≤ endQ ∧
 endQ ≤ (↑text.length : Int) ∧
 List.drop at_.toNat (List.take endQ.toNat text) = wordAt text at_)))) :
 Con Try.prog f_ref_wordAt ref_wordAt_ct := ⟨ref_wordAt_ok.able rfl, fun x hx =>
 con_eq hC (L := []) (trivial) ref_wordAt_ok (ct := ref_wordAt_ct) (depth := 0) rfl (by kernel_rfl) x (H (@id (List UInt8 × Int) x).1 (@id (List UInt8 × Int) x).2 (mpr' hx (by kernel_rfl))) (by kernel_rfl)⟩

theorem ref_WordsFind_vc (hC : Cons Try.prog [(f_ref_wordAt, ref_wordAt_ct)])
 (H : ∀ (text : List UInt8) (word : List UInt8), (fitS text ∧ fitS word) →
 (¬word = [] → watPre word 0) ∧
 (word = [] ∨ wordAt word 0 ≠ word → [] = (wordsFind text word).fst ∧ 4 = (wordsFind text word).snd) ∧
 (¬(word = [] ∨ wordAt word 0 ≠ word) →
 (600 < (↑text.length : Int) → [] = (wordsFind text word).fst ∧ 1 = (wordsFind text word).snd) ∧
 (¬600 < (↑text.length : Int) →
 ∃ (I : Int → List Int → Prop),
 ∃ (m : Int → List Int → Nat),
 I 0 [] ∧
 ∀ (x : Int) (out : List Int),
 I x out →
 (x < (↑text.length : Int) →
 watPre text x ∧
 (wordAt text x = word →
 (out.length + 1) * 8 ≤ 140737488355328 ∧
 inI64 (x + 1) ∧ I (x + 1) (out ++ [x]) ∧ m (x + 1) (out ++ [x]) < m x out) ∧
 (¬wordAt text x = word → inI64 (x + 1) ∧ I (x + 1) out ∧ m (x + 1) out < m x out)) ∧
 (¬x < (↑text.length : Int) → out = (wordsFind text word).fst ∧ 0 = (wordsFind text word).snd)))) :
 Con Try.prog f_ref_WordsFind ref_WordsFind_ct := ⟨ref_WordsFind_ok.able rfl, fun x hx =>
 con_eq hC (L := []) (trivial) ref_WordsFind_ok (ct := ref_WordsFind_ct) (depth := 0) rfl (by kernel_rfl) x (H (@id (List UInt8 × List UInt8) x).1 (@id (List UInt8 × List UInt8) x).2 (mpr' hx (by kernel_rfl))) (by kernel_rfl)⟩

theorem law_sameInts_vc (hC : Cons Try.prog [])
 (H : ∀ (a : List Int) (b : List Int), (fitL a ∧ fitL b) →
 ((↑a.length : Int) ≠ (↑b.length : Int) → false = bo (a = b)) ∧
 (¬(↑a.length : Int) ≠ (↑b.length : Int) →
 ∃ (I : Int → Prop),
 ∃ (m : Int → Nat),
 I 0 ∧
 ∀ (i : Int),
 I i →
 (i < (↑a.length : Int) →
 0 ≤ i ∧
 i < (↑a.length : Int) ∧
 0 ≤ i ∧
 i < (↑b.length : Int) ∧
 (gt a i ≠ gt b i → false = bo (a = b)) ∧
 (¬gt a i ≠ gt b i → inI64 (i + 1) ∧ I (i + 1) ∧ m (i + 1) < m i)) ∧
 (¬i < (↑a.length : Int) → true = bo (a = b)))) :
 Con Try.prog f_law_sameInts law_sameInts_ct := ⟨law_sameInts_ok.able rfl, fun x hx =>
 con_eq hC (L := []) (trivial) law_sameInts_ok (ct := law_sameInts_ct) (depth := 0) rfl (by kernel_rfl) x (H (@id (List Int × List Int) x).1 (@id (List Int × List Int) x).2 (mpr' hx (by kernel_rfl))) (by kernel_rfl)⟩

theorem law_WordsFinds_vc (hC : Cons Try.prog [(f_words_Find, words_Find_ct), (f_ref_WordsFind, ref_WordsFind_ct), (f_law_sameInts, law_sameInts_ct)])
 (H : ∀ (text : List UInt8) (word : List UInt8), (text.length.le 140737488351232 ∧ word.length.le 140737488351232) →
 (fitS text ∧ fitS word) ∧
 (fitS text ∧ fitS word) ∧
 (fitL (wordsFind text word).fst ∧ fitL (wordsFind text word).fst) ∧
 bo
 (bo ((wordsFind text word).fst = (wordsFind text word).fst) = true ∧
 (wordsFind text word).snd = (wordsFind text word).snd) =
 true) :
 Con Try.prog f_law_WordsFinds law_WordsFinds_ct := ⟨law_WordsFinds_ok.able rfl, fun x hx =>
 con_eq hC (L := []) (trivial) law_WordsFinds_ok (ct := law_WordsFinds_ct) (depth := 0) rfl (by kernel_rfl) x (H (@id (List UInt8 × List UInt8) x).1 (@id (List UInt8 × List UInt8) x).2 (mpr' hx (by kernel_rfl))) (by kernel_rfl)⟩

end Go.Proofs.Ytoiebdgnfjgcpaa
