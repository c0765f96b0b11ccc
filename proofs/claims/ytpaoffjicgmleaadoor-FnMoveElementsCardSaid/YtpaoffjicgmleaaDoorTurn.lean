/-
  TurnStructure, the program's and the reference's. Condition: texts below the reach.
-/
import Derived.Test.YtpaoffjicgmleaaDoorMk
namespace Go.Proofs.YtpaoffjicgmleaaDoor
open Go.RowKit
open Pl
set_option linter.unusedSimpArgs false
set_option linter.unusedVariables false

/-- a structure and whether there is one -/
def resV : Option St → Value
  | some a => .tuple #[stA a, .bool true]
  | none => .tuple #[stV 0 (bs []) (bs []), .bool false]

def turnO (i : Int) (s r : ByteArray) : Option St := if okB i s r then some (ofSt i s r).turn else none

theorem box_load {w : World} {g : Nat} {a b c : Value} {t : TypeId} (h : Bx w g t #[a, b, c]) : w.cell? ⟨g, 0, none⟩ = some a ∧ w.cell? ⟨g, 1, none⟩ = some b ∧ w.cell? ⟨g, 2, none⟩ = some c :=
  ⟨h.cell 0, h.cell 1, h.cell 2⟩

/-- the bits of a structure that is made, as lists -/
theorem mkSt_set (n : Nat) (f : Nat → Bool) (g : Nat → Nat → Bool) : (mkSt n f g).set = setTo f n := rfl
theorem mkSt_rel (n : Nat) (f : Nat → Bool) (g : Nat → Nat → Bool) : (mkSt n f g).rel = relTo n g n := rfl
theorem setTo_self {a : St} (ha : a.ok) : setTo a.inS a.n = a.set := by rw [← mkSt_set a.n a.inS a.inR, mkSt_self ha]

theorem turn1_calls (a : St) (ha : a.ok) (x y : Nat) (hx : x < a.n) (hy : y < a.n) (bb : Nat) (w : World) (hb : Bx w bb 24 #[.int .i64 a.n, .string (bs a.set), .string (bs a.rel)]) :
    Calls Tryd.prog 60 #[.int .i64 x, .int .i64 y, .pointer (some ⟨bb, 0, none⟩)] w fun e w' => e = .returned (.bool (a.inR y x)) ∧ Below w.heap.size w w' := by
  obtain ⟨k0, k1, k2⟩ := box_load hb
  have hc := inRel_calls a ha y x hy hx w
  have Hc := Lib.hid hc
  clear hc hb
  go_enter Tryd.func60, Tryd.ntmps60
  go_wp2_with (go_at_call 54; refine (Hc.out).mono ?_; rintro e w1 ⟨rfl, hz⟩)
  go_ret
  exact ⟨rfl, hz⟩

theorem enter_turn1 : ∀ (args : Array Value) (w : World), (callFunc 60 args).run Tryd.prog w = .ok (.enter 60 args) w := enter_of Tryd.func60 (by kernel_rfl) (by kernel_rfl)
theorem enter_inSet : ∀ (args : Array Value) (w : World), (callFunc 53 args).run Tryd.prog w = .ok (.enter 53 args) w := enter_of Tryd.func53 (by kernel_rfl) (by kernel_rfl)

set_option maxHeartbeats 1000000 in
theorem TurnStructure_impl (i : Int) (s r : ByteArray) (w : World) (hs : s.size ≤ maxLen) (hr : r.size ≤ maxLen) :
    Calls Tryd.prog 19 #[stV i s r] w fun e w' => e = .returned (resV (turnO i s r)) ∧ Below w.heap.size w w' := by
  have hc : ∀ W, Calls Tryd.prog 46 #[stV i s r] W fun e w' => e = .returned (.bool (okB i s r)) ∧ Below W.heap.size W w' := fun W => isStructure_calls i s r W hs hr
  rcases ok_cases i s r with hok | ⟨a, ha, rfl, rfl, rfl⟩
  · have hv : turnO i s r = none := by unfold turnO; rw [hok]; rfl
    rw [hv]
    rw [hok] at hc
    have Hc := Lib.hid hc
    clear hc hs hr hok hv
    go_enter Tryd.func19, Tryd.ntmps19
    go_wp2_with fail
    refine (Hc.out _).mono ?_
    rintro e w1 ⟨rfl, hz⟩
    have x1 := (bx_two w (.cells #[.int .i64 i, .string s, .string r] 24) #[.int .i64 0, .string (bs []), .string (bs [])] (t := 24)).call hz
    have HB := Lib.hid (((((Below.refl w.heap.size w).alloc (Nat.le_refl _) _).alloc (by simp) _).trans (hz.mono (by simp; omega))))
    obtain ⟨k0, k1, k2⟩ := box_load x1
    have f0 := x1.free 0
    have f1 := x1.free 1
    have f2 := x1.free 2
    have y1 := ((x1.set 0 (.int .i64 0)).set 1 (.string (bs []))).set 2 (.string (bs []))
    obtain ⟨q0, q1, q2⟩ := box_load (a := .int .i64 0) (b := .string (bs [])) (c := .string (bs [])) y1
    clear hz y1
    have Hx := Lib.hid x1
    clear x1
    go_wp2_with fail
    refine bodyPost_ret (v := resV none) ?_ rfl ⟨rfl, ?_⟩
    · have e0 : (⟨#[]⟩ : ByteArray) = bs [] := rfl
      simp only [e0]
      simp [results, Tryd.results19, go_sem, q0, q1, q2, resV]
    · exact ((HB.out.setCell (by simp) _).setCell (by simp) _).setCell (by simp) _
  · have hok := okB_true ha
    have hv : turnO a.n (bs a.set) (bs a.rel) = some a.turn := by unfold turnO; rw [hok]; rfl
    rw [hv]
    rw [hok] at hc
    have Hc := Lib.hid hc
    clear hc hs hr hok hv
    go_enter Tryd.func19, Tryd.ntmps19
    go_wp2_with fail
    refine (Hc.out _).mono ?_
    rintro e w1 ⟨rfl, hz⟩
    have x0 := ((Bx.new w 24 #[.int .i64 a.n, .string (bs a.set), .string (bs a.rel)]).alloc (.cells #[.int .i64 0, .string (bs []), .string (bs [])] 24)).call hz
    have x1 := (bx_two w (.cells #[.int .i64 a.n, .string (bs a.set), .string (bs a.rel)] 24) #[.int .i64 0, .string (bs []), .string (bs [])] (t := 24)).call hz
    have HB := Lib.hid (((((Below.refl w.heap.size w).alloc (Nat.le_refl _) _).alloc (by simp) _).trans (hz.mono (by simp; omega))))
    obtain ⟨k0, k1, k2⟩ := box_load x0
    clear hz
    have X0 := Lib.hid x0
    have X1 := Lib.hid x1
    clear x0 x1
    have hmk := makeStructure_calls a.n ha.hi a.inS (fun x y => a.inR y x) 53 60 #[stA a] #[] #[] #[.pointer (some ⟨w.heap.size, 0, none⟩)] w1 enter_inSet enter_turn1
      (fun x W hx hW => inSet_calls a ha x hx W) (fun x y W hx hy hW => turn1_calls a ha x y hx hy w.heap.size W (X0.out.call hW))
    have Hmk := Lib.hid hmk
    clear hmk
    go_wp2_with (go_at_call 59; refine (Hmk.out).mono ?_; rintro e w2 ⟨rfl, hz⟩; have x1 := X1.out.call hz; have HB2 := Lib.hid (HB.out.trans (hz.mono HB.out.size)); have f0 := x1.free 0; have f1 := x1.free 1; have f2 := x1.free 2; obtain ⟨d0, d1, d2⟩ := box_load x1; have X2 := Lib.hid x1; clear hz x1)
    have y1 := ((X2.out.set 0 (.int .i64 a.turn.n)).set 1 (.string (bs a.turn.set))).set 2 (.string (bs a.turn.rel))
    obtain ⟨q0, q1, q2⟩ := box_load (a := .int .i64 a.turn.n) (b := .string (bs a.turn.set)) (c := .string (bs a.turn.rel)) y1
    refine bodyPost_ret (v := resV (some a.turn)) ?_ rfl ⟨rfl, ?_⟩
    · show _ = _
      have e1 : mkSt a.n a.inS (fun x y => a.inR y x) = a.turn := rfl
      simp only [e1]
      simp [results, Tryd.results19, go_sem, q0, q1, q2, resV]
    · exact ((HB2.out.setCell (by simp) _).setCell (by simp) _).setCell (by simp) _

end Go.Proofs.YtpaoffjicgmleaaDoor
