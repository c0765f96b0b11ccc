/-
  Regions that draw their order, walked by one order that is laid beforehand, where one last operation, which waits for all others, may break what the loads ask. No condition.
-/
import Derived.Test.YtgnmlijfenjehaaDoorReg
namespace Go.Proofs.YtgnmlijfenjehaaDoor
namespace R2
open Go.RowKit
set_option linter.unusedVariables false

section
variable {P : Program} {ops : Array Oper} {Q : Exit → Act → World → Prop} {md : Region.Mode} {S : World → Prop} {L : Nat}

/-- whatever order: what the loads ask holds behind each operation but number L -/
def AnyT (P : Program) (md : Region.Mode) (ops : Array Oper) (Q : Exit → Act → World → Prop) (S : World → Prop) (L : Nat) : Nat → Array Bool → Act → World → Prop
  | 0, listed, a, w => Region.ready md ops listed = [] ∧ Q .normal a w
  | n + 1, listed, a, w => (Region.ready md ops listed = [] → Q .normal a w) ∧
      ∀ i ∈ Region.ready md ops listed, wpOp P ops Q i (fun a' w' => (i ≠ L → S w') ∧ AnyT P md ops Q S L n (listed.setIfInBounds i true) a' w') a w

theorem AnyT.any : ∀ (n : Nat) (listed : Array Bool) (a : Act) (w : World), AnyT P md ops Q S L n listed a w → wpAny P md ops Q n listed a w := by
  intro n
  induction n with
  | zero => exact fun _ _ _ h => h
  | succ n ih =>
    intro listed a w h
    exact ⟨h.1, fun i hi => wpOp_mono (fun a' w' h' => ih _ a' w' h'.2) (h.2 i hi)⟩

/-- number L waits for number i -/
def waits (md : Region.Mode) (ops : Array Oper) (L i : Nat) : Bool := match ops[L]? with | some o => o.after.any fun e => Region.binds md e && e.on == i | none => false

theorem not_unlisted {listed : Array Bool} {i : Nat} (hiu : listed.getD i true = false) (h : listed.getD i false = true) : False := by
  rcases Nat.lt_or_ge i listed.size with h' | h'
  · simp [h'] at hiu h; rw [hiu] at h; cases h
  · simp [Array.getElem?_eq_none h'] at hiu

theorem waits_not {listed : Array Bool} {i : Nat} (hw : waits md ops L i = true) (hiu : listed.getD i true = false) : L ∉ Region.ready md ops listed := fun hr => by
  obtain ⟨_, o, ho, hall⟩ := mem_ready.1 hr
  unfold waits at hw
  rw [ho] at hw
  simp only [Array.any_eq_true', Bool.and_eq_true, beq_iff_eq] at hw
  obtain ⟨e, he, hb, rfl⟩ := hw
  exact not_unlisted hiu (by simpa using hall e he hb)

/-- an operation that yields under S, and for which number L waits, may be taken first -/
theorem AnyT.first {i : Nat} {oi : Oper} {v : Value} (hi : ops[i]? = some oi) (hwt : waits md ops L i = true) (hsel : ∀ (j : Nat) (o : Oper) cs b, ops[j]? = some o → o.op ≠ .select cs b)
    (hQ : ∀ c a w, Q (.panic c) (a.put oi.dst v) w → Q (.panic c) a w) : ∀ (n : Nat) (listed : Array Bool) (a : Act) (w : World),
      (∀ j oj, ops[j]? = some oj → j ≠ i → listed.getD j true = false → (∀ e ∈ oj.after, Region.binds md e = true → e.on ≠ i) → oi.apart ops oj = true) →
      i ∈ Region.ready md ops listed → YieldsIf P ops S oi v a → S w → AnyT P md ops Q S L n (listed.setIfInBounds i true) (a.put oi.dst v) w → AnyT P md ops Q S L (n + 1) listed a w := by
  intro n
  induction n with
  | zero =>
    intro listed a w _ hr hy hS H
    refine ⟨fun h => absurd hr (by simp [h]), fun j hj => ?_⟩
    by_cases hne : j = i
    · subst hne
      exact hy.wpOp hi hS ⟨fun _ => hS, H⟩
    · have h0 := ready_mono hj hne
      rw [H.1] at h0
      cases h0
  | succ n ih =>
    intro listed a w hfree hr hy hS H
    refine ⟨fun h => absurd hr (by simp [h]), fun j hj => ?_⟩
    by_cases hne : j = i
    · subst hne
      exact hy.wpOp hi hS ⟨fun _ => hS, H⟩
    · obtain ⟨hju, oj, hoj, hall⟩ := mem_ready.1 hj
      have hiu := (mem_ready.1 hr).1
      have hjL : j ≠ L := fun e => waits_not hwt hiu (e ▸ hj)
      have hno : ∀ e ∈ oj.after, Region.binds md e = true → e.on ≠ i := fun e he hb heq => not_unlisted hiu (by have := hall e he hb; rw [heq] at this; simpa using this)
      have h2 := wpOp_putIf hoj (hfree j oj hoj hne hju hno) (fun cs b => hsel i oi cs b hi) (fun cs b => hsel j oj cs b hoj) hQ hy (H.2 j (ready_mono hj hne))
      refine wpOp_mono (fun a' w' h3 => ⟨fun _ => h3.2.1 hjL, ih _ a' w' (fun k ok hk hki hun hnk => hfree k ok hk hki ?_ hnk) (ready_mono hr (Ne.symm hne)) h3.1 (h3.2.1 hjL) ?_⟩) h2
      · by_cases hjk : j = k
        · subst hjk; exact hju
        · rwa [getD_set_ne true hjk] at hun
      · rw [Array.setIfInBounds_comm _ _ hne]
        exact h3.2.2

/-- the order laid -/
def okT (md : Region.Mode) (ops : Array Oper) (L : Nat) : List (Nat × Bool) → Array Bool → Bool
  | [], listed => (Region.ready md ops listed).isEmpty
  | (i, true) :: is, listed => waits md ops L i && (Region.free md ops listed i && ((Region.ready md ops listed).contains i && okT md ops L is (listed.setIfInBounds i true)))
  | (i, false) :: is, listed => (Region.ready md ops listed == [i]) && ((is.isEmpty || i != L) && okT md ops L is (listed.setIfInBounds i true))

def wpT (P : Program) (ops : Array Oper) (Q : Exit → Act → World → Prop) (S : World → Prop) : List (Nat × Bool) → Act → World → Prop
  | [], a, w => Q .normal a w
  | (i, true) :: is, a, w => ∃ o v, ops[i]? = some o ∧ YieldsIf P ops S o v a ∧ wpT P ops Q S is (a.put o.dst v) w
  | (i, false) :: is, a, w => wpOp P ops Q i (fun a' w' => (is.isEmpty = true ∨ S w') ∧ wpT P ops Q S is a' w') a w

theorem anyT_of (hs : Region.noSelect ops = true) (hQ : ∀ t c a w, Q (.panic c) { a with tmps := t } w → Q (.panic c) a w) :
    ∀ (is : List (Nat × Bool)) (listed : Array Bool) (a : Act) (w : World), okT md ops L is listed = true → (is.isEmpty = true ∨ S w) → (∀ p ∈ is.getLast?, p = (L, false)) → wpT P ops Q S is a w → AnyT P md ops Q S L is.length listed a w := by
  intro is
  induction is with
  | nil => intro listed a w h _ _ hw; exact ⟨by simpa [okT] using h, hw⟩
  | cons p is ih =>
    obtain ⟨i, b⟩ := p
    intro listed a w h hS hl hw
    have hSw : S w := hS.resolve_left (by simp)
    have hl2 : ∀ p ∈ is.getLast?, p = (L, false) := fun p hp => hl p (by
      cases is with
      | nil => simp at hp
      | cons q t => simpa [List.getLast?_cons_cons] using hp)
    cases b with
    | true =>
      simp only [okT, Bool.and_eq_true] at h
      obtain ⟨o, v, ho, hy, hr⟩ := hw
      refine AnyT.first ho h.1 (Region.noSelect_spec hs) (fun c a w h => by cases hd : o.dst with | none => rw [hd] at h; exact h | some d => rw [hd] at h; exact hQ _ c a w h) _ _ _ _ (Region.free_spec ho h.2.1) (by simpa using h.2.2.1) hy hSw (ih _ _ _ h.2.2.2 (.inr hSw) hl2 hr)
    | false =>
      simp only [okT, Bool.and_eq_true, beq_iff_eq] at h
      obtain ⟨h1, h2, h3⟩ := h
      refine ⟨fun h0 => absurd (h1 ▸ h0) (by simp), fun j hj => ?_⟩
      obtain rfl : j = i := by rw [h1] at hj; simpa using hj
      refine wpOp_mono (fun a' w' hk => ⟨fun hne => ?_, ih _ _ _ h3 hk.1 hl2 hk.2⟩) hw
      rcases hk.1 with he | hSw'
      · rw [List.isEmpty_iff] at he
        subst he
        have := hl (j, false) (by simp)
        exact absurd (Prod.mk.inj this).1 hne
      · exact hSw'

/-- the same, behind a name that nothing unfolds -/
structure Sd (P : Program) (ops : Array Oper) (Q : Exit → Act → World → Prop) (S : World → Prop) (is : List (Nat × Bool)) (a : Act) (w : World) : Prop where
  out : wpT P ops Q S is a w

/-- a region that draws, by an order that is laid; number L, the last one, may break what the loads ask -/
theorem region_sched {id : Nat} {a : Act} {w : World} (is : List (Nat × Bool)) (L : Nat) (S : World → Prop) (hm : P.follows .mixedOrders = true) (hs : Region.noSelect ops = true) (hl : is.length = ops.size)
    (hk : okT .any ops L is (Array.replicate ops.size false) = true) (hlast : is.getLast? = some (L, false)) (hQ : ∀ t c a w, Q (.panic c) { a with tmps := t } w → Q (.panic c) a w) (hS : S w.drew)
    (h : ∀ Q' : Exit → Act → World → Prop, Hid (∀ a' w', Q .normal a' w' → Q' .normal a' w') → Sd P ops Q' S is a w.drew) : (Code.region id ops true).wp P Q a w := by
  refine wp_region_any hm ?_
  have h2 := anyT_of (md := .any) (S := S) (L := L) hs hQ is (Array.replicate ops.size false) a w.drew hk (.inr hS) (fun p hp => by rw [hlast] at hp; exact (Option.some.inj hp).symm) (h Q (Lib.hid fun _ _ h => h)).out
  rw [hl] at h2
  exact AnyT.any _ _ _ _ h2

theorem sched_call {i : Nat} {is : List (Nat × Bool)} {a : Act} {w : World} {o : Oper} (ho : ops[i]? = some o) (hw : Region.wanted o (yielded ops a.tmps) = true)
    (h : ∀ K : Act → World → Prop, Hid (∀ a' w', S w' → Sd P ops Q S is a' w' → K a' w') → o.wp P a w K Q) : Sd P ops Q S ((i, false) :: is) a w := by
  refine ⟨?_⟩
  show wpOp P ops Q i _ a w
  unfold wpOp
  simp only [ho, hw, if_true]
  exact .inl (h _ (Lib.hid fun _ _ h1 h2 => ⟨.inr h1, h2.out⟩))
theorem sched_last {i : Nat} {a : Act} {w : World} {o : Oper} (ho : ops[i]? = some o) (hw : Region.wanted o (yielded ops a.tmps) = true)
    (h : ∀ K : Act → World → Prop, Hid (∀ a' w', Sd P ops Q S [] a' w' → K a' w') → o.wp P a w K Q) : Sd P ops Q S [(i, false)] a w := by
  refine ⟨?_⟩
  show wpOp P ops Q i _ a w
  unfold wpOp
  simp only [ho, hw, if_true]
  exact .inl (h _ (Lib.hid fun _ _ h2 => ⟨.inl rfl, h2.out⟩))
theorem sched_take' {i : Nat} {is : List (Nat × Bool)} {a : Act} {w : World} {o : Oper} {v : Value} {a' : Act} (ho : ops[i]? = some o) (hw : Region.wanted o (yielded ops a.tmps) = true) (hy : ∀ w, S w → (execOp a.eval o).run P w = .ok (.value v) w)
    {d : Tmp} (hd : o.dst = some d) (ha : a.put (some d) v = a') (h : Sd P ops Q S is a' w) : Sd P ops Q S ((i, true) :: is) a w := ⟨⟨o, v, ho, .inl ⟨hw, hy⟩, by rw [hd, ha]; exact h.out⟩⟩
theorem sched_lay {is : List (Nat × Bool)} {a a' : Act} {w : World} (ha : a = a') (h : Sd P ops Q S is a' w) : Sd P ops Q S is a w := by rw [ha]; exact h
theorem sched_done {a : Act} {w : World} (h : Q .normal a w) : Sd P ops Q S [] a w := ⟨h⟩
end
end R2
end Go.Proofs.YtgnmlijfenjehaaDoor
