/-
  Regions that draw their order, walked by one order that is laid beforehand. No condition.
-/
import Derived.Test.YtgnmlijfenjehaaDoorMk
import Derived.OrdersHeld
namespace Go.Proofs.YtgnmlijfenjehaaDoor
open Go.RowKit
set_option linter.unusedVariables false

section
variable {P : Program} {ops : Array Oper} {Q : Exit → Act → World → Prop} {md : Region.Mode} {S : World → Prop}

/-- the order laid: numbers that are taken first where they yield, numbers that alone may come up -/
def schedOk (md : Region.Mode) (ops : Array Oper) : List (Nat × Bool) → Array Bool → Bool
  | [], listed => (Region.ready md ops listed).isEmpty
  | (i, true) :: is, listed => Region.free md ops listed i && ((Region.ready md ops listed).contains i && schedOk md ops is (listed.setIfInBounds i true))
  | (i, false) :: is, listed => (Region.ready md ops listed == [i]) && schedOk md ops is (listed.setIfInBounds i true)

def wpSched (P : Program) (ops : Array Oper) (Q : Exit → Act → World → Prop) (S : World → Prop) : List (Nat × Bool) → Act → World → Prop
  | [], a, w => Q .normal a w
  | (i, true) :: is, a, w => ∃ o v, ops[i]? = some o ∧ YieldsIf P ops S o v a ∧ wpSched P ops Q S is (a.put o.dst v) w
  | (i, false) :: is, a, w => wpOp P ops Q i (fun a' w' => S w' ∧ wpSched P ops Q S is a' w') a w

theorem wpAnyH_sched (hs : Region.noSelect ops = true) (hQ : ∀ t c a w, Q (.panic c) { a with tmps := t } w → Q (.panic c) a w) :
    ∀ (is : List (Nat × Bool)) (listed : Array Bool) (a : Act) (w : World), schedOk md ops is listed = true → S w → wpSched P ops Q S is a w → wpAnyH P md ops Q S is.length listed a w := by
  intro is
  induction is with
  | nil => intro listed a w h _ hw; exact ⟨by simpa [schedOk] using h, hw⟩
  | cons p is ih =>
    obtain ⟨i, b⟩ := p
    intro listed a w h hS hw
    cases b with
    | true =>
      simp only [schedOk, Bool.and_eq_true] at h
      obtain ⟨o, v, ho, hy, hr⟩ := hw
      exact wpAnyH_take ho hs h.1 h.2.1 (fun c a w h => by cases hd : o.dst with | none => rw [hd] at h; exact h | some d => rw [hd] at h; exact hQ _ c a w h) hy hS (ih _ _ _ h.2.2 hS hr)
    | false =>
      simp only [schedOk, Bool.and_eq_true, beq_iff_eq] at h
      refine wpAnyH_all h.1 (by simp) fun j hj => ?_
      obtain rfl : j = i := by simpa using hj
      exact wpOp_mono (fun a' w' hk => ⟨hk.1, ih _ _ _ h.2 hk.1 hk.2⟩) hw

/-- the same, behind a name that nothing unfolds -/
structure Sd (P : Program) (ops : Array Oper) (Q : Exit → Act → World → Prop) (S : World → Prop) (is : List (Nat × Bool)) (a : Act) (w : World) : Prop where
  out : wpSched P ops Q S is a w

/-- a region that draws, by an order that is laid; what follows stands behind a letter -/
theorem region_sched {id : Nat} {a : Act} {w : World} (is : List (Nat × Bool)) (S : World → Prop) (hm : P.follows .mixedOrders = true) (hs : Region.noSelect ops = true) (hl : is.length = ops.size)
    (hk : schedOk .any ops is (Array.replicate ops.size false) = true) (hQ : ∀ t c a w, Q (.panic c) { a with tmps := t } w → Q (.panic c) a w) (hS : S w.drew)
    (h : ∀ Q' : Exit → Act → World → Prop, Hid (∀ a' w', Q .normal a' w' → Q' .normal a' w') → Sd P ops Q' S is a w.drew) : (Code.region id ops true).wp P Q a w := by
  refine wp_region_held (S := S) hm ?_
  have h2 := wpAnyH_sched (md := .any) (S := S) hs hQ is (Array.replicate ops.size false) a w.drew hk hS (h Q (Lib.hid fun _ _ h => h)).out
  rw [hl] at h2
  exact h2

theorem sched_take {i : Nat} {is : List (Nat × Bool)} {a : Act} {w : World} {o : Oper} {v : Value} (ho : ops[i]? = some o) (hw : Region.wanted o (yielded ops a.tmps) = true) (hy : ∀ w, S w → (execOp a.eval o).run P w = .ok (.value v) w)
    (h : Sd P ops Q S is (a.put o.dst v) w) : Sd P ops Q S ((i, true) :: is) a w := ⟨⟨o, v, ho, .inl ⟨hw, hy⟩, h.out⟩⟩
theorem sched_skip {i : Nat} {is : List (Nat × Bool)} {a : Act} {w : World} {o : Oper} (ho : ops[i]? = some o) (hw : Region.wanted o (yielded ops a.tmps) = false)
    (h : Sd P ops Q S is (a.put o.dst undef) w) : Sd P ops Q S ((i, true) :: is) a w := ⟨⟨o, undef, ho, .inr ⟨hw, rfl⟩, h.out⟩⟩
theorem sched_call {i : Nat} {is : List (Nat × Bool)} {a : Act} {w : World} {o : Oper} (ho : ops[i]? = some o) (hw : Region.wanted o (yielded ops a.tmps) = true)
    (h : ∀ K : Act → World → Prop, Hid (∀ a' w', S w' → Sd P ops Q S is a' w' → K a' w') → o.wp P a w K Q) : Sd P ops Q S ((i, false) :: is) a w := by
  refine ⟨?_⟩
  show wpOp P ops Q i _ a w
  unfold wpOp
  simp only [ho, hw, if_true]
  exact .inl (h _ (Lib.hid fun _ _ h1 h2 => ⟨h1, h2.out⟩))
theorem sched_skipC {i : Nat} {is : List (Nat × Bool)} {a : Act} {w : World} {o : Oper} (ho : ops[i]? = some o) (hw : Region.wanted o (yielded ops a.tmps) = false) (hS : S w)
    (h : Sd P ops Q S is (a.put o.dst undef) w) : Sd P ops Q S ((i, false) :: is) a w := by
  refine ⟨?_⟩
  show wpOp P ops Q i _ a w
  unfold wpOp
  simp only [ho, hw]
  exact ⟨hS, h.out⟩
theorem sched_take' {i : Nat} {is : List (Nat × Bool)} {a : Act} {w : World} {o : Oper} {v : Value} {a' : Act} (ho : ops[i]? = some o) (hw : Region.wanted o (yielded ops a.tmps) = true) (hy : ∀ w, S w → (execOp a.eval o).run P w = .ok (.value v) w)
    {d : Tmp} (hd : o.dst = some d) (ha : a.put (some d) v = a') (h : Sd P ops Q S is a' w) : Sd P ops Q S ((i, true) :: is) a w := ⟨⟨o, v, ho, .inl ⟨hw, hy⟩, by rw [hd, ha]; exact h.out⟩⟩
theorem sched_skip' {i : Nat} {is : List (Nat × Bool)} {a : Act} {w : World} {o : Oper} {a' : Act} (ho : ops[i]? = some o) (hw : Region.wanted o (yielded ops a.tmps) = false) {d : Tmp} (hd : o.dst = some d) (ha : a.put (some d) undef = a')
    (h : Sd P ops Q S is a' w) : Sd P ops Q S ((i, true) :: is) a w := ⟨⟨o, undef, ho, .inr ⟨hw, rfl⟩, by rw [hd, ha]; exact h.out⟩⟩
theorem sched_lay {is : List (Nat × Bool)} {a a' : Act} {w : World} (ha : a = a') (h : Sd P ops Q S is a' w) : Sd P ops Q S is a w := by rw [ha]; exact h
theorem sched_skipC' {i : Nat} {is : List (Nat × Bool)} {a : Act} {w : World} {o : Oper} {a' : Act} (ho : ops[i]? = some o) (hw : Region.wanted o (yielded ops a.tmps) = false) (hS : S w) {d : Tmp} (hd : o.dst = some d) (ha : a.put (some d) undef = a')
    (h : Sd P ops Q S is a' w) : Sd P ops Q S ((i, false) :: is) a w := by
  refine ⟨?_⟩
  show wpOp P ops Q i _ a w
  unfold wpOp
  rw [← ha] at h
  simp only [ho, hw, hd] at *
  exact ⟨hS, h.out⟩
theorem sched_done {a : Act} {w : World} (h : Q .normal a w) : Sd P ops Q S [] a w := ⟨h⟩
end

end Go.Proofs.YtgnmlijfenjehaaDoor
