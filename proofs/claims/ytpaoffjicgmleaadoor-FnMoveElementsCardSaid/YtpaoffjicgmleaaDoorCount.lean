/-
  CountSymmetries of the program. Condition: texts below the reach.
-/
import Derived.Test.YtpaoffjicgmleaaDoorEach2
import Derived.Test.YtpaoffjicgmleaaDoorPerms
namespace Go.Proofs.YtpaoffjicgmleaaDoor
open Go.RowKit
open Pl
set_option linter.unusedSimpArgs false
set_option linter.unusedVariables false

/-- a counter as the machine has it -/
def cnt : Nat → Int
  | 0 => 0
  | k + 1 => IntKind.i64.wrap (cnt k + 1)
theorem cnt_small : ∀ (k : Nat), k ≤ 1048576 → cnt k = k
  | 0, _ => rfl
  | k + 1, h => by
    show IntKind.i64.wrap (cnt k + 1) = _
    rw [cnt_small k (by omega), IntKind.wrap_i64]
    omega

theorem Kp.setCell {B : Nat} {W : World} {p : Addr} (hp : p.block < B) (u : Value) : Kp B W (W.setCell p u) :=
  ⟨by simp, fun k hk _ => Below.heap_setCell W p u k (by omega)⟩
theorem Kp.refl (B : Nat) (W : World) : Kp B W W := ⟨Nat.le_refl _, fun _ _ _ => rfl⟩

theorem count1_calls (nb : Nat) (k : Nat) (v : Value) (w : World) (hb : Bx w nb 3 #[.int .i64 (cnt k)]) :
    Calls Tryd.prog 64 #[v, .pointer (some ⟨nb, 0, none⟩)] w fun e w' => e = .returned (.bool true) ∧ w' = w.setCell ⟨nb, 0, none⟩ (.int .i64 (cnt (k + 1))) := by
  have q0 : w.cell? ⟨nb, 0, none⟩ = some (.int .i64 (cnt k)) := hb.cell 0
  have q1 := hb.free 0
  obtain ⟨N, hN⟩ : ∃ N, N = cnt (k + 1) := ⟨_, rfl⟩
  have hw : IntKind.i64.wrap (cnt k + 1) = N := hN.symm
  rw [← hN]
  clear hN hb
  go_enter Tryd.func64, Tryd.ntmps64
  go_wp2_with fail
  go_ret
  exact ⟨rfl, rfl⟩

theorem enter_count1 : ∀ (args : Array Value) (w : World), (callFunc 64 args).run Tryd.prog w = .ok (.enter 64 args) w := enter_of Tryd.func64 (by kernel_rfl) (by kernel_rfl)

theorem fact_le : ∀ n, n ≤ 8 → fact n ≤ 40320
  | 0, _ => by decide
  | 1, _ => by decide
  | 2, _ => by decide
  | 3, _ => by decide
  | 4, _ => by decide
  | 5, _ => by decide
  | 6, _ => by decide
  | 7, _ => by decide
  | 8, _ => by decide
theorem fact_pos : ∀ n, 0 < fact n
  | 0 => by decide
  | n + 1 => Nat.mul_pos (Nat.succ_pos n) (fact_pos n)
theorem isos_le {a : St} (ha : a.ok) : (isos a a).length ≤ 40320 := by
  have h := Nat.le_of_dvd (by have := fact_pos a.n; omega) (count_dvd_fact a)
  have := fact_le a.n ha.hi
  omega

/-- the number of symmetries -/
def symV (i : Int) (s r : ByteArray) : Int := if okB i s r then ((isos (ofSt i s r) (ofSt i s r)).length : Int) else -1
theorem symV_no {i : Int} {s r : ByteArray} (h : okB i s r = false) : symV i s r = -1 := by unfold symV; rw [h]; rfl

set_option maxHeartbeats 1000000 in
theorem CountSymmetries_impl (i : Int) (s r : ByteArray) (w : World) (hs : s.size ≤ maxLen) (hr : r.size ≤ maxLen) :
    Calls Tryd.prog 21 #[stV i s r] w fun e w' => e = .returned (.int .i64 (symV i s r)) ∧ Below w.heap.size w w' := by
  have hc : ∀ W, Calls Tryd.prog 46 #[stV i s r] W fun e w' => e = .returned (.bool (okB i s r)) ∧ Below W.heap.size W w' := fun W => isStructure_calls i s r W hs hr
  cases hok : okB i s r with
  | false =>
    rw [symV_no hok]
    rw [hok] at hc
    have Hc := Lib.hid hc
    clear hc hs hr hok
    go_enter Tryd.func21, Tryd.ntmps21
    go_wp2_with fail
    refine (Hc.out _).mono ?_
    rintro e w1 ⟨rfl, hz⟩
    have HB := Lib.hid (box_next (box_refl w _) hz)
    clear hz
    go_wp2_with fail
    go_ret
    exact ⟨rfl, box_down HB.out⟩
  | true =>
    rcases ok_cases i s r with h | ⟨a, ha, rfl, rfl, rfl⟩
    · rw [h] at hok; cases hok
    have hv : symV a.n (bs a.set) (bs a.rel) = cnt (isos a a).length := by
      rw [cnt_small _ (by have := isos_le ha; omega)]
      unfold symV
      rw [hok, ofSt_eq]
      rfl
    rw [hv]
    rw [hok] at hc
    have hes : ∀ (nb : Nat) (W : World), nb < W.heap.size → w.heap.size ≤ nb → Bx W nb 3 #[.int .i64 0] → Below w.heap.size w W → Calls Tryd.prog 63 #[stA a, stA a, .func (.func 64) #[] #[.pointer (some ⟨nb, 0, none⟩)]] W fun e w' => e = .returned (.tuple #[]) ∧ (Bx w' nb 3 #[.int .i64 (cnt (isos a a).length)] ∧ Below w.heap.size w w') := by
      intro nb W hnb hwn hbx hbl
      exact eachShape_calls a a ha ha rfl true 64 #[] #[.pointer (some ⟨nb, 0, none⟩)] W enter_count1 (fun V L => Bx V nb 3 #[.int .i64 (cnt L.length)] ∧ Below w.heap.size w V)
        (fun V V' L _ h hb => ⟨h.1.below hb hnb, h.2.trans (hb.mono (by omega))⟩)
        (fun V L l A cap _ h _ _ _ _ => (count1_calls nb L.length _ V h.1).mono fun e w' ⟨h1, h2⟩ => ⟨⟨h1, by
          rw [h2, List.length_append, List.length_singleton]
          exact ⟨by simpa using h.1.set 0 _, h.2.setCell hwn _⟩⟩, by rw [h2]; exact Kp.setCell hnb _⟩)
        ⟨hbx, hbl⟩
    have Hc := Lib.hid hc
    have Hes := Lib.hid hes
    clear hc hes hs hr hok hv ha
    go_enter Tryd.func21, Tryd.ntmps21
    go_wp2_with fail
    refine (Hc.out _).mono ?_
    rintro e w1 ⟨rfl, hz⟩
    have HB := Lib.hid (box_next (box_refl w _) hz)
    clear hz
    have HB2 := Lib.hid (HB.out.alloc (by have := HB.out.size; simpa using this) (.cells #[.int .i64 0] 3))
    obtain ⟨k0, k1, k2⟩ := box3 HB2.out
    go_wp2_with fail
    refine (Hes.out w1.heap.size _ ?h1 ?h2 ?h3 ?h4).mono ?_
    case h1 => simp
    case h2 => have := (box_down HB.out).size; exact this
    case h3 => exact Bx.new w1 _ _
    case h4 => exact (box_down HB.out).alloc (box_down HB.out).size _
    rintro e w2 ⟨rfl, hx, hbl⟩
    have q0 : w2.cell? ⟨w1.heap.size, 0, none⟩ = some (.int .i64 (cnt (isos a a).length)) := hx.cell 0
    have Hbl := Lib.hid hbl
    clear hx hbl k0 k1 k2
    go_wp2_with fail
    go_ret
    exact ⟨rfl, Hbl.out⟩

end Go.Proofs.YtpaoffjicgmleaaDoor
