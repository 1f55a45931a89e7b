/-
  Objects in the store, by their places: what stands there, in any order, whatever stands elsewhere. For functions whose memory has parts in parts.
-/
import Derived.Test.YtfelfimcnidplaaVyM
set_option linter.unusedVariables false
set_option linter.unusedSimpArgs false
namespace Go.Vc
abbrev Hp := List (Nat × Ob)
/-- These objects stand in the store at these places. -/
structure HasL (S : Store) (H : Hp) : Prop where
  nd : (H.map (·.1)).Nodup
  at_ : ∀ p ∈ H, S[p.1]? = some p.2
theorem HasL.perm {S : Store} {H H' : Hp} (h : HasL S H) (hp : H.Perm H') : HasL S H' := ⟨(hp.map _).nodup_iff.1 h.nd, fun p hm => h.at_ p (hp.mem_iff.2 hm)⟩
/-- A part of memory: objects at places, in no order. -/
def HM : Type := Quotient (List.isSetoid (Nat × Ob))
namespace HM
def of (l : Hp) : HM := Quotient.mk _ l
def nil : HM := of []
def add (a b : HM) : HM := Quotient.liftOn₂ a b (fun x y => of (x ++ y)) fun a b c d h1 h2 => Quotient.sound (List.Perm.append h1 h2)
instance : Add HM := ⟨add⟩
theorem of_add (x y : Hp) : of x + of y = of (x ++ y) := rfl
theorem of_perm {x y : Hp} (h : x.Perm y) : of x = of y := Quotient.sound h
theorem of_eq {x y : Hp} (h : of x = of y) : x.Perm y := Quotient.exact h
theorem ex (a : HM) : ∃ l, a = of l := Quotient.inductionOn a fun l => ⟨l, rfl⟩
instance : Std.Associative (α := HM) (· + ·) := ⟨fun a b c => by
  obtain ⟨x, rfl⟩ := a.ex; obtain ⟨y, rfl⟩ := b.ex; obtain ⟨z, rfl⟩ := c.ex
  simp only [of_add, List.append_assoc]⟩
instance : Std.Commutative (α := HM) (· + ·) := ⟨fun a b => by
  obtain ⟨x, rfl⟩ := a.ex; obtain ⟨y, rfl⟩ := b.ex
  simp only [of_add]; exact of_perm List.perm_append_comm⟩
theorem nil_add (a : HM) : nil + a = a := by obtain ⟨x, rfl⟩ := a.ex; rfl
theorem add_nil (a : HM) : a + nil = a := by obtain ⟨x, rfl⟩ := a.ex; show of (x ++ []) = _; rw [List.append_nil]
instance : Std.LawfulIdentity (α := HM) (· + ·) nil := { left_id := nil_add, right_id := add_nil }
end HM
open HM
def pt (l : Nat) (o : Ob) : HM := of [(l, o)]
def Has (S : Store) (m : HM) : Prop := Quotient.liftOn m (HasL S) fun a b h => propext ⟨fun q => q.perm h, fun q => q.perm h.symm⟩
theorem has_of {S : Store} {H : Hp} : Has S (of H) ↔ HasL S H := Iff.rfl
section
variable {S : Store} {m a b R : HM} {l v k : Nat} {o o' : Ob} {cs : List AVal}
theorem Has.nil : Has S HM.nil := ⟨.nil, fun p h => by simp at h⟩
theorem Has.left (h : Has S (a + b)) : Has S a := by
  obtain ⟨x, rfl⟩ := a.ex; obtain ⟨y, rfl⟩ := b.ex
  have h : HasL S (x ++ y) := h
  exact ⟨h.nd.sublist ((List.sublist_append_left x y).map _), fun p hp => h.at_ p (List.mem_append_left _ hp)⟩
theorem Has.comm (h : Has S (a + b)) : Has S (b + a) := by rw [show b + a = a + b from Std.Commutative.comm _ _]; exact h
theorem Has.right (h : Has S (a + b)) : Has S b := h.comm.left
theorem Has.get (h : Has S (pt l o + R)) : S[l]? = some o := by
  obtain ⟨x, rfl⟩ := R.ex
  have h : HasL S ((l, o) :: x) := h
  exact h.at_ (l, o) (List.mem_cons_self ..)
theorem Has.put (h : Has S (pt l o + R)) (o' : Ob) : Has (S.set l o') (pt l o' + R) := by
  have hl : l < S.length := (List.getElem?_eq_some_iff.1 h.get).1
  obtain ⟨x, rfl⟩ := R.ex
  have h : HasL S ((l, o) :: x) := h
  obtain ⟨h1, h2⟩ := List.nodup_cons.1 (by simpa using h.nd : (l :: x.map (·.1)).Nodup)
  refine (⟨by simpa using ⟨fun a q => h1 (List.mem_map.2 ⟨_, q, rfl⟩), h2⟩, fun p hp => ?_⟩ : HasL _ ((l, o') :: x))
  rcases List.mem_cons.1 hp with rfl | hp
  · exact List.getElem?_set_self hl
  · have hne : l ≠ p.1 := fun e => h1 (List.mem_map.2 ⟨p, hp, e.symm⟩)
    rw [List.getElem?_set_ne hne]; exact h.at_ p (List.mem_cons_of_mem _ hp)
theorem Has.more (h : Has S R) (o : Ob) : Has (S ++ [o]) (pt S.length o + R) := by
  obtain ⟨x, rfl⟩ := R.ex
  have h : HasL S x := h
  have hlt : ∀ p ∈ x, p.1 < S.length := fun p hp => (List.getElem?_eq_some_iff.1 (h.at_ p hp)).1
  refine (⟨?_, fun p hp => ?_⟩ : HasL _ ((S.length, o) :: x))
  · show (S.length :: x.map (·.1)).Nodup
    refine List.nodup_cons.2 ⟨fun hm => ?_, h.nd⟩
    obtain ⟨p, hp, e⟩ := List.mem_map.1 hm
    have := hlt p hp; omega
  · rcases List.mem_cons.1 hp with rfl | hp
    · simp
    · rw [List.getElem?_append_left (hlt p hp)]; exact h.at_ p hp
theorem Has.deads (h : Has S R) (r : Nat) : Has (S ++ List.replicate r .dead) R := by
  obtain ⟨x, rfl⟩ := R.ex
  have h : HasL S x := h
  show HasL (S ++ List.replicate r .dead) x
  refine ⟨h.nd, fun p hp => ?_⟩
  rw [List.getElem?_append_left (List.getElem?_eq_some_iff.1 (h.at_ p hp)).1]
  exact h.at_ p hp
theorem Has.eq {m' : HM} (h : Has S m) (e : m = m') : Has S m' := e ▸ h
end
/-! ### Where an object stands in a sum, found by instances -/
class At (m : HM) (l : Nat) (o : outParam Ob) (f : outParam (Ob → HM)) : Prop where
  eq : m = f o
  split : ∃ R, ∀ x, f x = pt l x + R
instance At.here {l : Nat} {o : Ob} : At (pt l o) l o (fun x => pt l x) := ⟨rfl, HM.nil, fun x => (HM.add_nil _).symm⟩
instance At.inl {a b : HM} {l : Nat} {o : Ob} {f : Ob → HM} [h : At a l o f] : At (a + b) l o (fun x => f x + b) :=
  ⟨by rw [← h.eq], by obtain ⟨R, hR⟩ := h.split; exact ⟨R + b, fun x => by rw [hR]; ac_rfl⟩⟩
instance At.inr {a b : HM} {l : Nat} {o : Ob} {f : Ob → HM} [h : At b l o f] : At (a + b) l o (fun x => a + f x) :=
  ⟨by rw [← h.eq], by obtain ⟨R, hR⟩ := h.split; exact ⟨a + R, fun x => by rw [hR]; ac_rfl⟩⟩
class Part (m a : HM) (f : outParam (HM → HM)) : Prop where
  eq : m = f a
  split : ∃ R, ∀ x, f x = x + R
instance Part.here {a : HM} : Part a a (fun x => x) := ⟨rfl, HM.nil, fun x => (HM.add_nil _).symm⟩
instance Part.inl {a b c : HM} {f : HM → HM} [h : Part a c f] : Part (a + b) c (fun x => f x + b) :=
  ⟨by rw [← h.eq], by obtain ⟨R, hR⟩ := h.split; exact ⟨R + b, fun x => by rw [hR]; ac_rfl⟩⟩
instance Part.inr {a b c : HM} {f : HM → HM} [h : Part b c f] : Part (a + b) c (fun x => a + f x) :=
  ⟨by rw [← h.eq], by obtain ⟨R, hR⟩ := h.split; exact ⟨a + R, fun x => by rw [hR]; ac_rfl⟩⟩
section
variable {S : Store} {m a : HM} {l v k : Nat} {o o' : Ob} {cs : List AVal} {f : Ob → HM} {g : HM → HM}
theorem Has.here [i : At m l o f] (h : Has S m) : S[l]? = some o := by
  obtain ⟨R, hR⟩ := i.split
  have h := i.eq ▸ h
  rw [hR] at h; exact h.get
theorem Has.row [i : At m l o f] (h : Has S m) {K : Nat → List AVal → Prop} (ho : o = .row v k cs) (hk : K k cs) : wRow S l v K := wRow_iff.2 ⟨k, cs, by rw [h.here (l := l), ho], hk⟩
theorem Has.wset [i : At m l o f] (h : Has S m) {K : Store → Prop} (hk : ∀ S', Has S' (f o') → K S') : wSet S l o' K := by
  have hl := h.here (l := l)
  refine wSet_iff.2 ⟨(List.getElem?_eq_some_iff.1 hl).1, hk _ ?_⟩
  obtain ⟨R, hR⟩ := i.split
  have h := i.eq ▸ h
  rw [hR] at h
  rw [hR]; exact h.put o'
theorem Has.wpush (h : Has S m) {K : Nat → Store → Prop} (hk : ∀ l S', Has S' (pt l o + m) → K l S') : wPush S o K := wPush_iff.2 (hk _ _ (h.more o))
end
/-- A function's contract over the objects that it is handed: the others stay. -/
def HC (P : Program) (f : FuncId) (args : List AVal) (m : HM) (R : AVal → HM → Prop) : Prop :=
  ∀ S mf, Has S (m + mf) → ACalls P f args S fun r S' => ∃ m', R r m' ∧ Has S' (m' + mf)
theorem HC.use {P : Program} {f : FuncId} {args : List AVal} {m a : HM} {R : AVal → HM → Prop} {g : HM → HM} [i : Part m a g] (hc : HC P f args a R) {S : Store} (h : Has S m) {K : AVal → Store → Prop} (hk : ∀ r m' S', R r m' → Has S' (g m') → K r S') : ACalls P f args S K := by
  obtain ⟨R0, hR⟩ := i.split
  have h := i.eq ▸ h
  rw [hR] at h
  exact (hc S R0 h).mono fun r S' ⟨m', h1, h2⟩ => hk r m' S' h1 (by rw [hR]; exact h2)
theorem HC.mono {P : Program} {f : FuncId} {args : List AVal} {m : HM} {R R' : AVal → HM → Prop} (h : HC P f args m R) (hr : ∀ r m', R r m' → R' r m') : HC P f args m R' :=
  fun S mf hS => (h S mf hS).mono fun r S' ⟨m', h1, h2⟩ => ⟨m', hr _ _ h1, h2⟩
/-- A function that makes nothing and hands back plain values. -/
theorem Con.plain {P : Program} {f : FuncId} {ct : Ct} (h : Con P f ct) (x : Ts ct.args) (hx : ct.pre x) (hv : allVal ct.res = true) {S : Store} {K : AVal → Store → Prop} (hk : K (retA (encsR ct.res (ct.fn x))) S) : ACalls P f (encAs ct.args x) S K := by
  refine ACalls.use (Q := fun r => r = retA (encsR ct.res (ct.fn x))) ((h.2 x hx).mono fun r S' ⟨ys, h1, h2⟩ => ?_) fun r e => e ▸ hk
  obtain ⟨e1, e2⟩ := val_det _ _ _ hv h1
  rw [h2, e1]
end Go.Vc
