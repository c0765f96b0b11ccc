/-
  The validity of structures: the program's and the reference's. Condition: texts below the reach.
-/
import Derived.Test.YtgnmlijfenjehaaDoorTrimLay
import Derived.Test.YtgnmlijfenjehaaDoorShapes
import Derived.Test.YtgnmlijfenjehaaDoorBs
import Derived.Test.YtgnmlijfenjehaaDoorRows
import Derived.WalkKit
import Derived.Lib.Hide
import Derived.Below
import Derived.Lib.Strings
import Derived.WalkSpells
import Derived.WalkLawsBesides
namespace Go.Proofs.YtgnmlijfenjehaaDoor
open Go.RowKit
open Pl
set_option linter.unusedSimpArgs false

theorem bcell {W w1 : World} (hb : Below W.heap.size W w1) : (∀ b o, b < W.heap.size → w1.cell? ⟨b, o, none⟩ = W.cell? ⟨b, o, none⟩) ∧ (∀ b o, b < W.heap.size → w1.frozen? ⟨b, o, none⟩ = W.frozen? ⟨b, o, none⟩) :=
  ⟨fun b o h => hb.cell (p := ⟨b, o, none⟩) h, fun b o h => hb.frozen (p := ⟨b, o, none⟩) h⟩

/-- a box of three cells behind a call -/
theorem box3 {w wN : World} {a b c : Value} {t : TypeId} (h : Below (w.heap.size + 1) (w.alloc (.cells #[a, b, c] t)) wN) :
    wN.cell? ⟨w.heap.size, 0, none⟩ = some a ∧ wN.cell? ⟨w.heap.size, 1, none⟩ = some b ∧ wN.cell? ⟨w.heap.size, 2, none⟩ = some c := by
  have hk : ∀ o, wN.cell? ⟨w.heap.size, o, none⟩ = (w.alloc (.cells #[a, b, c] t)).cell? ⟨w.heap.size, o, none⟩ := fun o => h.cell (p := ⟨w.heap.size, o, none⟩) (Nat.lt_succ_self _)
  refine ⟨?_, ?_, ?_⟩ <;> rw [hk] <;> simp

theorem box_down {w wN : World} {o : Obj} (h : Below (w.heap.size + 1) (w.alloc o) wN) : Below w.heap.size w wN :=
  ((Below.refl w.heap.size w).alloc (Nat.le_refl _) o).trans (h.mono (Nat.le_succ _))

theorem box_refl (w : World) (o : Obj) : Below (w.heap.size + 1) (w.alloc o) (w.alloc o) := Below.refl _ _

theorem box_next {w w1 w2 : World} {o : Obj} (h : Below (w.heap.size + 1) (w.alloc o) w1) (h2 : Below w1.heap.size w1 w2) : Below (w.heap.size + 1) (w.alloc o) w2 :=
  h.trans (h2.mono (by have := h.size; simpa using this))

/-- all bytes are bits -/
def bitsL (l : List UInt8) : Bool := l.all fun b => b == 48 || b == 49

theorem dropWhile_nil {α : Type} (p : α → Bool) : ∀ l : List α, l.dropWhile p = [] ↔ l.all p = true := by
  intro l
  induction l with
  | nil => simp
  | cons x l ih =>
    by_cases h : p x = true
    · simp [List.dropWhile_cons, h, ih]
    · simp [List.dropWhile_cons, h]

theorem dropWhile_all {α : Type} (p : α → Bool) : ∀ l : List α, (l.dropWhile p).all p = l.all p := by
  intro l
  induction l with
  | nil => rfl
  | cons x l ih =>
    by_cases h : p x = true
    · simp [List.dropWhile_cons, h, ih]
    · simp [List.dropWhile_cons, h]

theorem trim_bits (l : List UInt8) : Lib.trimS l [48, 49] = [] ↔ bitsL l = true := by
  have hp : ∀ b : UInt8, ([48, 49] : List UInt8).contains b = (b == 48 || b == 49) := fun b => by
    simp only [List.contains_cons, List.contains_nil, Bool.or_false]
  have e : Lib.trimS l [48, 49] = ((l.reverse.dropWhile fun b => b == 48 || b == 49).reverse).dropWhile fun b => b == 48 || b == 49 := by
    unfold Lib.trimS Lib.trimLeftS Lib.trimRightS
    simp only [hp]
  rw [e, dropWhile_nil, List.all_reverse, dropWhile_all, List.all_reverse]
  rfl

/-- a text has n bytes that are bits -/
def bitsB (s : ByteArray) (n : Int) : Bool := decide ((s.size : Int) = n) && bitsL s.data.toList

set_option maxHeartbeats 400000 in
theorem areBits_calls (s : ByteArray) (n : Int) (w : World) (hs : s.size ≤ maxLen) :
    Calls Tryd.prog 61 #[.string s, .int .i64 n] w fun e w' => e = .returned (.bool (bitsB s n)) ∧ Below w.heap.size w w' := by
  unfold maxLen at hs
  by_cases hn : (s.size : Int) = n
  · have hc : ∀ W, Calls Tryd.prog 88 #[.string s, .string ⟨#[48, 49]⟩] W fun e w' => e = .returned (.string ⟨(Lib.trimS s.data.toList [48, 49]).toArray⟩) ∧ Below W.heap.size W w' := fun W =>
      Any.strings_Trim_laid Tryd.lays160 (by kernel_rfl) s ⟨#[48, 49]⟩ W hs (by decide) (ascii_of_all (by decide))
    obtain ⟨l, hl⟩ : ∃ l, l = Lib.trimS s.data.toList [48, 49] := ⟨_, rfl⟩
    rw [← hl] at hc
    have hb : bitsB s n = decide (l = []) := by
      unfold bitsB
      rw [decide_eq_true hn, Bool.true_and, Bool.eq_iff_iff, decide_eq_true_eq, hl, trim_bits]
    rw [hb]
    have Hc := Lib.hid hc
    clear hc hl hb
    cases l with
    | nil =>
      subst hn
      go_enter Tryd.func61, Tryd.ntmps61
      go_wp2_with (go_at_call 88; refine (Hc.out _).mono ?_; rintro e w' ⟨rfl, hb1⟩)
      go_ret
      exact ⟨rfl, hb1⟩
    | cons b l =>
      subst hn
      go_enter Tryd.func61, Tryd.ntmps61
      go_wp2_with (go_at_call 88; refine (Hc.out _).mono ?_; rintro e w' ⟨rfl, hb1⟩)
      go_ret
      exact ⟨rfl, hb1⟩
  · have hb : bitsB s n = false := by unfold bitsB; rw [decide_eq_false hn, Bool.false_and]
    rw [hb]
    have h1 : ((s.size : Int) == n) = false := beq_eq_false_iff_ne.2 hn
    clear hb
    go_enter Tryd.func61, Tryd.ntmps61
    go_wp2_with fail
    go_ret
    exact ⟨rfl, Below.refl _ _⟩

end Go.Proofs.YtgnmlijfenjehaaDoor
