/-
  Elements in a list, different numbers, and the structure of some elements, in the program. Condition: at most 2^20 numbers.
-/
import Derived.Test.YtgnmlijfenjehaaDoorList
import Derived.Test.YtgnmlijfenjehaaDoorTurn
namespace Go.Proofs.YtgnmlijfenjehaaDoor
open Go.RowKit
open Pl
set_option linter.unusedSimpArgs false
set_option linter.unusedVariables false

theorem notEl_calls (i x : Int) (s r : ByteArray) (bb : Nat) (w : World) (hb : Bx w bb 27 #[.int .i64 i, .string s, .string r]) :
    Calls Tryd.prog 63 #[.int .i64 x, .pointer (some ⟨bb, 0, none⟩)] w fun e w' => e = .returned (.bool (!elB i x)) ∧ Below w.heap.size w w' := by
  obtain ⟨k0, k1, k2⟩ := box_load hb
  clear hb
  unfold elB
  by_cases h0 : 0 ≤ x
  · have d0 : decide (x < 0) = false := decide_eq_false (by omega)
    rw [decide_eq_true h0]
    have hv : (!(true && decide (x < i))) = decide (i ≤ x) := by
      rw [Bool.true_and, ← decide_not, decide_eq_decide]; omega
    rw [hv]
    clear hv
    go_enter Tryd.func63, Tryd.ntmps63
    go_wp2_with fail
    all_goals
      go_ret
      exact ⟨rfl, Below.refl _ _⟩
  · have d0 : decide (x < 0) = true := decide_eq_true (by omega)
    rw [decide_eq_false h0]
    go_enter Tryd.func63, Tryd.ntmps63
    go_wp2_with fail
    all_goals
      go_ret
      exact ⟨rfl, Below.refl _ _⟩

set_option maxHeartbeats 400000 in
theorem IndexFunc_calls (A : Option Addr) (zs : List Int) (cap : Nat) (p : Int → Bool) (F : FuncId) (fF cF : Array Value) (w : World) (hn : zs.length ≤ 1048576) (hA : LRow w A zs)
    (eF : ∀ (args : Array Value) (W : World), (callFunc F args).run Tryd.prog W = .ok (.enter F args) W)
    (hF : ∀ (x : Int) (W : World), x ∈ zs → Below w.heap.size w W → Calls Tryd.prog F (fF.push (.int .i64 x) ++ cF) W fun e W' => e = .returned (.bool (p x)) ∧ Below W.heap.size W W') :
    Calls Tryd.prog 89 #[.slice A zs.length cap, .func (.func F) fF cF] w fun e w' => (∃ m : Int, e = .returned (.int .i64 m) ∧ (0 ≤ m ↔ zs.any p = true)) ∧ Below w.heap.size w w' := by
  have HA := Lib.hid hA
  have HF := Lib.hid hF
  clear hA hF
  go_enter Tryd.func89, Tryd.ntmps89
  go_wp2_with fail
  go_loopg [8] zs.length (fun c i wr => ∃ k : Nat, k + c = zs.length ∧ i = .int .i64 k ∧ (zs.take k).any p = false ∧ Below w.heap.size w wr)
  case atStart => exact ⟨0, by omega, rfl, rfl, Below.refl _ _⟩
  case round =>
    obtain ⟨k, hk, rfl, hno, hbr⟩ := hrel
    have Hno := Lib.hid hno
    have Hbr := Lib.hid hbr
    clear hno hbr
    by_cases hlt : k < zs.length
    · obtain ⟨g, rfl, hc⟩ := (HA.out.call Hbr.out) (by omega)
      have hck := hc k hlt
      have hmem := getD_mem hlt
      have htk : (zs.take (k + 1)).any p = ((zs.take k).any p || p (zs.getD k 0)) := by
        rw [List.take_succ_eq_append_getElem hlt, List.any_append]
        simp [List.getD, hlt]
      obtain ⟨z, hz⟩ : ∃ z, z = zs.getD k 0 := ⟨_, rfl⟩
      rw [← hz] at hck hmem htk
      have hcall := HF.out z wr hmem Hbr.out
      clear hc hz
      cases hp : p z with
      | true =>
        rw [hp] at hcall
        have hany : zs.any p = true := List.any_eq_true.2 ⟨z, hmem, hp⟩
        have Hany := Lib.hid hany
        have Hcall := Lib.hid hcall
        clear hcall hmem htk hp hany
        go_wp2_with fail
        refine (Hcall.out).mono ?_
        rintro e w2 ⟨rfl, hb2⟩
        go_wp2_with fail
        go_ret
        exact ⟨⟨_, rfl, ⟨fun _ => Hany.out, fun _ => by omega⟩⟩, Hbr.out.trans (hb2.mono Hbr.out.size)⟩
      | false =>
        rw [hp] at hcall htk
        have Hcall := Lib.hid hcall
        have Htk := Lib.hid htk
        clear hcall hmem htk hp
        go_wp2_with fail
        refine (Hcall.out).mono ?_
        rintro e w2 ⟨rfl, hb2⟩
        have Hb2 := Lib.hid hb2
        clear hb2
        go_wp2_with fail
        go_roundg (gk - 1)
        case rel => exact ⟨k + 1, by omega, by go_num, by rw [Htk.out, Hno.out]; rfl, Hbr.out.trans (Hb2.out.mono Hbr.out.size)⟩
        case measure => omega
    · have hall : zs.any p = false := by
        have := Hno.out
        rwa [List.take_of_length_le (by omega)] at this
      have Hall := Lib.hid hall
      clear hall
      go_wp2_with fail
      go_ret
      exact ⟨⟨_, rfl, ⟨fun h => absurd h (by decide), fun h => by rw [Hall.out] at h; cases h⟩⟩, Hbr.out⟩

theorem ContainsFunc_calls (A : Option Addr) (zs : List Int) (cap : Nat) (p : Int → Bool) (F : FuncId) (fF cF : Array Value) (w : World) (hn : zs.length ≤ 1048576) (hA : LRow w A zs)
    (eF : ∀ (args : Array Value) (W : World), (callFunc F args).run Tryd.prog W = .ok (.enter F args) W)
    (hF : ∀ (x : Int) (W : World), x ∈ zs → Below w.heap.size w W → Calls Tryd.prog F (fF.push (.int .i64 x) ++ cF) W fun e W' => e = .returned (.bool (p x)) ∧ Below W.heap.size W W') :
    Calls Tryd.prog 62 #[.slice A zs.length cap, .func (.func F) fF cF] w fun e w' => e = .returned (.bool (zs.any p)) ∧ Below w.heap.size w w' := by
  have hc := IndexFunc_calls A zs cap p F fF cF w hn hA eF hF
  have Hc := Lib.hid hc
  clear hc hA hF
  go_enter Tryd.func62, Tryd.ntmps62
  go_wp2_with fail
  refine (Hc.out).mono ?_
  rintro e w' ⟨⟨m, rfl, hm⟩, hb⟩
  have Hm := Lib.hid hm
  have Hb := Lib.hid hb
  clear hm hb
  go_wp2_with fail
  go_ret
  refine ⟨?_, Hb.out⟩
  show Ending.returned (.bool (decide (0 ≤ m))) = _
  congr 2
  rw [Bool.eq_iff_iff, decide_eq_true_eq]
  exact Hm.out

def elAll (i : Int) (zs : List Int) : Bool := zs.all (elB i)
def nodB (zs : List Int) : Bool := decide zs.Nodup

theorem enter_notEl : ∀ (args : Array Value) (w : World), (callFunc 63 args).run Tryd.prog w = .ok (.enter 63 args) w := enter_of Tryd.func63 (by kernel_rfl) (by kernel_rfl)

theorem areElements_calls (i : Int) (s r : ByteArray) (A : Option Addr) (zs : List Int) (cap : Nat) (w : World) (hn : zs.length ≤ 1048576) (hA : LRow w A zs) :
    Calls Tryd.prog 32 #[stV i s r, .slice A zs.length cap] w fun e w' => e = .returned (.bool (elAll i zs)) ∧ Below w.heap.size w w' := by
  have hx := Bx.new w 27 #[.int .i64 i, .string s, .string r]
  have hc := ContainsFunc_calls A zs cap (fun x => !elB i x) 63 #[] #[.pointer (some ⟨w.heap.size, 0, none⟩)] (w.alloc (.cells #[.int .i64 i, .string s, .string r] 27)) hn (hA.alloc _) enter_notEl
    (fun x W _ hW => notEl_calls i x s r w.heap.size W (hx.call hW))
  have hv : (!(zs.any fun x => !elB i x)) = elAll i zs := by
    unfold elAll
    rw [Bool.eq_iff_iff]
    simp [List.any_eq_true, List.all_eq_true]
  obtain ⟨b, hb⟩ : ∃ b, b = zs.any fun x => !elB i x := ⟨_, rfl⟩
  rw [← hb] at hc hv
  rw [← hv]
  have Hc := Lib.hid hc
  clear hc hA hx hv hb
  go_enter Tryd.func32, Tryd.ntmps32
  go_wp2_with fail
  refine (Hc.out).mono ?_
  rintro e w' ⟨rfl, hb⟩
  have HB := Lib.hid (box_next (box_refl w _) hb)
  clear hb
  go_wp2_with fail
  go_ret
  exact ⟨rfl, box_down HB.out⟩

set_option maxHeartbeats 400000 in
theorem allDifferent_calls (A : Option Addr) (zs : List Int) (cap : Nat) (w : World) (hn : zs.length ≤ 1048576) (hcap : zs.length ≤ cap) (hA : LRow w A zs) :
    Calls Tryd.prog 33 #[.slice A zs.length cap] w fun e w' => e = .returned (.bool (nodB zs)) ∧ w = w' := by
  have HA := Lib.hid hA
  clear hA
  obtain ⟨V, hV⟩ : ∃ V, V = nodB zs := ⟨_, rfl⟩
  rw [← hV]
  have HV := Lib.hid hV
  clear hV
  go_enter Tryd.func33, Tryd.ntmps33
  go_wp2_with fail
  go_loop [7] (fun i => ∃ k : Nat, k ≤ zs.length ∧ i = .int .i64 k ∧ (zs.take k).Nodup) (fun i => zs.length - (intOf i).toNat)
  case atStart => exact ⟨0, Nat.zero_le _, rfl, by simp⟩
  case round =>
    obtain ⟨k, hk, rfl, hnd⟩ := hrel
    have Hnd := Lib.hid hnd
    clear hnd
    by_cases hlt : k < zs.length
    · have hcon := Contains_calls A (zs.take k) cap (zs.getD k 0) w (by rw [List.length_take]; omega) (HA.out.take k)
      rw [List.length_take, Nat.min_eq_left (by omega)] at hcon
      have hstep : (zs.take (k + 1)).Nodup ↔ (zs.take k).Nodup ∧ ¬ zs.getD k 0 ∈ zs.take k := by
        rw [List.take_succ_eq_append_getElem hlt, List.nodup_append]
        have e : zs.getD k 0 = zs[k] := by simp [List.getD, hlt]
        rw [e]
        simp only [List.mem_singleton]
        constructor
        · rintro ⟨h1, _, h2⟩; exact ⟨h1, fun h => h2 _ h _ rfl rfl⟩
        · rintro ⟨h1, h2⟩; exact ⟨h1, by simp, fun x hx y hy e => by subst hy; subst e; exact h2 hx⟩
      obtain ⟨g, rfl, hc⟩ := HA.out (by omega)
      have hck := hc k hlt
      have hwh : zs.Nodup → (zs.take (k + 1)).Nodup := fun h => h.sublist (List.take_sublist _ _)
      have hkc : (k : Int) ≤ (cap : Int) := by omega
      obtain ⟨z, hz⟩ : ∃ z, z = zs.getD k 0 := ⟨_, rfl⟩
      rw [← hz] at hcon hck hstep
      clear hc hz
      by_cases hin : z ∈ zs.take k
      · rw [decide_eq_true hin] at hcon
        have hno : nodB zs = false := decide_eq_false fun h => (hstep.1 (hwh h)).2 hin
        have Hno := Lib.hid hno
        have Hcon := Lib.hid hcon
        clear hcon hstep hwh hin hno
        go_wp2_with fail
        refine (Hcon.out).mono ?_
        rintro e w' ⟨rfl, rfl⟩
        go_wp2_with fail
        go_ret
        exact ⟨by rw [HV.out, Hno.out]; rfl, rfl⟩
      · rw [decide_eq_false hin] at hcon
        have hnext := hstep.2 ⟨Hnd.out, hin⟩
        have Hnext := Lib.hid hnext
        have Hcon := Lib.hid hcon
        clear hcon hstep hwh hin hnext
        go_wp2_with fail
        refine (Hcon.out).mono ?_
        rintro e w' ⟨rfl, rfl⟩
        go_wp2_with fail
        go_round
        case rel => exact ⟨k + 1, by omega, by go_num, Hnext.out⟩
        case measure => simp [intOf]; omega
    · have hall : nodB zs = true := by
        have := Hnd.out
        rw [List.take_of_length_le (by omega)] at this
        exact decide_eq_true this
      have Hall := Lib.hid hall
      clear hall
      go_wp2_with fail
      go_ret
      exact ⟨by rw [HV.out, Hall.out]; rfl, rfl⟩

/-- numbers that are elements, as natural numbers -/
def natsI (ns : List Nat) : List Int := ns.map fun x : Nat => (x : Int)
theorem natsI_len (ns : List Nat) : (natsI ns).length = ns.length := by simp [natsI]
theorem natsI_get (ns : List Nat) (k : Nat) : (natsI ns).getD k 0 = ((ns.getD k 0 : Nat) : Int) := by
  unfold natsI
  simp only [List.getD_eq_getElem?_getD, List.getElem?_map]
  cases ns[k]? <;> rfl

theorem LRow.nats {w : World} {A : Option Addr} {ns : List Nat} (h : LRow w A (natsI ns)) {k : Nat} (hk : k < ns.length) : ∃ g, A = some ⟨g, 0, none⟩ ∧ w.cell? ⟨g, k, none⟩ = some (.int .i64 ((ns.getD k 0 : Nat) : Int)) := by
  obtain ⟨g, rfl, hc⟩ := h (by rw [natsI_len]; omega)
  exact ⟨g, rfl, by rw [hc k (by rw [natsI_len]; exact hk), natsI_get]⟩

theorem getD_lt {n : Nat} {ns : List Nat} (h : ∀ x ∈ ns, x < n) {k : Nat} (hk : k < ns.length) : ns.getD k 0 < n := h _ (by
  simp only [List.getD_eq_getElem?_getD, List.getElem?_eq_getElem hk, Option.getD_some]
  exact List.getElem_mem hk)

set_option maxHeartbeats 1000000 in
theorem part1_calls (a : St) (ha : a.ok) (ns : List Nat) (hns : ∀ x ∈ ns, x < a.n) (hl : ns.length ≤ 8) (A : Option Addr) (cap : Nat) (x : Nat) (hx : x < ns.length) (ba bl : Nat) (w : World)
    (hb : Bx w ba 27 #[.int .i64 a.n, .string (bs a.set), .string (bs a.rel)]) (hbl : Bx w bl 24 #[.slice A ns.length cap]) (hA : LRow w A (natsI ns)) :
    Calls Tryd.prog 76 #[.int .i64 x, .pointer (some ⟨ba, 0, none⟩), .pointer (some ⟨bl, 0, none⟩)] w fun e w' => e = .returned (.bool (a.inS (ns.getD x 0))) ∧ Below w.heap.size w w' := by
  obtain ⟨k0, k1, k2⟩ := box_load hb
  have l0 := hbl.cell 0
  simp at l0
  obtain ⟨g, rfl, c0⟩ := hA.nats hx
  have hlt := getD_lt hns hx
  have hcall := fun W => inSet_calls a ha (ns.getD x 0) hlt W
  generalize ns.getD x 0 = y at c0 hlt hcall
  generalize ns.length = n at l0 hx hl
  have Hcall := Lib.hid hcall
  have i1 : (0 : Int) ≤ (x : Int) := by omega
  have i2 : (x : Int) < (n : Int) := by omega
  clear hb hbl hA hcall
  go_enter Tryd.func76, Tryd.ntmps76
  go_wp2_with fail
  go_region_held3 (fun w' => w'.cell? ⟨ba, 0, none⟩ = some (.int .i64 a.n) ∧ w'.cell? ⟨ba, 1, none⟩ = some (.string (bs a.set)) ∧ w'.cell? ⟨ba, 2, none⟩ = some (.string (bs a.rel)) ∧ w'.cell? ⟨bl, 0, none⟩ = some (.slice (some ⟨g, 0, none⟩) n cap) ∧ w'.cell? ⟨g, x, none⟩ = some (.int .i64 y)) (first | go_keep | exact ⟨m0, m1, m2, m3, m4⟩) (first | (go_at_call 77; (with_reducible refine (Hcall.out _).mono ?_); rintro e w2 ⟨rfl, hz⟩; have m0 := (hz.cell (World.block_lt_of_cell? _ _ k0)).trans k0; have m1 := (hz.cell (World.block_lt_of_cell? _ _ k1)).trans k1; have m2 := (hz.cell (World.block_lt_of_cell? _ _ k2)).trans k2; have m3 := (hz.cell (World.block_lt_of_cell? _ _ l0)).trans l0; have m4 := (hz.cell (World.block_lt_of_cell? _ _ c0)).trans c0; have Hz := Lib.hid hz; clear hz))
  all_goals
    go_wp2_with fail
    go_ret
    exact ⟨rfl, (Below.refl w.heap.size w).drew.trans (Hz.out.mono (Nat.le_refl _))⟩

set_option maxHeartbeats 1000000 in
theorem part2_calls (a : St) (ha : a.ok) (ns : List Nat) (hns : ∀ x ∈ ns, x < a.n) (hl : ns.length ≤ 8) (A : Option Addr) (cap : Nat) (x x2 : Nat) (hx : x < ns.length) (hx2 : x2 < ns.length) (ba bl : Nat) (w : World)
    (hb : Bx w ba 27 #[.int .i64 a.n, .string (bs a.set), .string (bs a.rel)]) (hbl : Bx w bl 24 #[.slice A ns.length cap]) (hA : LRow w A (natsI ns)) :
    Calls Tryd.prog 78 #[.int .i64 x, .int .i64 x2, .pointer (some ⟨ba, 0, none⟩), .pointer (some ⟨bl, 0, none⟩)] w fun e w' => e = .returned (.bool (a.inR (ns.getD x 0) (ns.getD x2 0))) ∧ Below w.heap.size w w' := by
  obtain ⟨k0, k1, k2⟩ := box_load hb
  have l0 := hbl.cell 0
  simp at l0
  obtain ⟨g, rfl, c0⟩ := hA.nats hx
  obtain ⟨g', hg', c1⟩ := hA.nats hx2
  obtain rfl : g = g' := by injection hg' with h; injection h
  have hlt := getD_lt hns hx
  have hlt2 := getD_lt hns hx2
  have hcall := fun W => inRel_calls a ha (ns.getD x 0) (ns.getD x2 0) hlt hlt2 W
  generalize ns.getD x 0 = y at c0 hlt hcall
  generalize ns.getD x2 0 = y2 at c1 hlt2 hcall
  generalize ns.length = n at l0 hx hx2 hl
  have Hcall := Lib.hid hcall
  have i1 : (0 : Int) ≤ (x : Int) := by omega
  have i2 : (x : Int) < (n : Int) := by omega
  have i3 : (0 : Int) ≤ (x2 : Int) := by omega
  have i4 : (x2 : Int) < (n : Int) := by omega
  clear hb hbl hA hcall hg'
  go_enter Tryd.func78, Tryd.ntmps78
  go_wp2_with fail
  go_region_held3 (fun w' => w'.cell? ⟨ba, 0, none⟩ = some (.int .i64 a.n) ∧ w'.cell? ⟨ba, 1, none⟩ = some (.string (bs a.set)) ∧ w'.cell? ⟨ba, 2, none⟩ = some (.string (bs a.rel)) ∧ w'.cell? ⟨bl, 0, none⟩ = some (.slice (some ⟨g, 0, none⟩) n cap) ∧ w'.cell? ⟨g, x, none⟩ = some (.int .i64 y) ∧ w'.cell? ⟨g, x2, none⟩ = some (.int .i64 y2)) (first | go_keep | exact ⟨m0, m1, m2, m3, m4, m5⟩) (first | (go_at_call 79; (with_reducible refine (Hcall.out _).mono ?_); rintro e w2 ⟨rfl, hz⟩; have m0 := (hz.cell (World.block_lt_of_cell? _ _ k0)).trans k0; have m1 := (hz.cell (World.block_lt_of_cell? _ _ k1)).trans k1; have m2 := (hz.cell (World.block_lt_of_cell? _ _ k2)).trans k2; have m3 := (hz.cell (World.block_lt_of_cell? _ _ l0)).trans l0; have m4 := (hz.cell (World.block_lt_of_cell? _ _ c0)).trans c0; have m5 := (hz.cell (World.block_lt_of_cell? _ _ c1)).trans c1; have Hz := Lib.hid hz; clear hz))
  all_goals
    go_wp2_with fail
    go_ret
    exact ⟨rfl, (Below.refl w.heap.size w).drew.trans (Hz.out.mono (Nat.le_refl _))⟩

theorem enter_part1 : ∀ (args : Array Value) (w : World), (callFunc 76 args).run Tryd.prog w = .ok (.enter 76 args) w := enter_of Tryd.func76 (by kernel_rfl) (by kernel_rfl)
theorem enter_part2 : ∀ (args : Array Value) (w : World), (callFunc 78 args).run Tryd.prog w = .ok (.enter 78 args) w := enter_of Tryd.func78 (by kernel_rfl) (by kernel_rfl)

set_option maxHeartbeats 1000000 in
theorem partOf_calls (a : St) (ha : a.ok) (ns : List Nat) (hns : ∀ x ∈ ns, x < a.n) (hl : ns.length ≤ 8) (A : Option Addr) (cap : Nat) (w : World) (hA : LRow w A (natsI ns)) :
    Calls Tryd.prog 49 #[stA a, .slice A ns.length cap] w fun e w' => e = .returned (stA (a.part ns)) ∧ Below w.heap.size w w' := by
  have HA := Lib.hid hA
  clear hA
  have hmk : ∀ W, Below (w.heap.size + 2) ((w.alloc (.cells #[.int .i64 a.n, .string (bs a.set), .string (bs a.rel)] 27)).alloc (.cells #[.slice A ns.length cap] 24)) W → Calls Tryd.prog 75 #[.int .i64 ns.length, .func (.func 76) #[] #[.pointer (some ⟨w.heap.size, 0, none⟩), .pointer (some ⟨w.heap.size + 1, 0, none⟩)], .func (.func 78) #[] #[.pointer (some ⟨w.heap.size, 0, none⟩), .pointer (some ⟨w.heap.size + 1, 0, none⟩)]] W fun e w' => e = .returned (stA (a.part ns)) ∧ Below W.heap.size W w' := fun W hW => by
    have x0 := ((Bx.new w 27 #[.int .i64 a.n, .string (bs a.set), .string (bs a.rel)]).alloc (.cells #[.slice A ns.length cap] 24)).below hW (by omega)
    have x1 := (bx_two w (.cells #[.int .i64 a.n, .string (bs a.set), .string (bs a.rel)] 27) #[.slice A ns.length cap] (t := 24)).below hW (by omega)
    have hA1 : LRow W A (natsI ns) := ((HA.out.alloc _).alloc _).call (hW.mono (by simp))
    exact makeStructure_calls ns.length hl (fun x => a.inS (ns.getD x 0)) (fun x y => a.inR (ns.getD x 0) (ns.getD y 0)) 76 78 #[] #[.pointer (some ⟨w.heap.size, 0, none⟩), .pointer (some ⟨w.heap.size + 1, 0, none⟩)] #[] #[.pointer (some ⟨w.heap.size, 0, none⟩), .pointer (some ⟨w.heap.size + 1, 0, none⟩)] W enter_part1 enter_part2
      (fun x V hx hV => part1_calls a ha ns hns hl A cap x hx _ _ V (x0.call hV) (x1.call hV) (hA1.call hV))
      (fun x y V hx hy hV => part2_calls a ha ns hns hl A cap x y hx hy _ _ V (x0.call hV) (x1.call hV) (hA1.call hV))
  have Hmk := Lib.hid hmk
  clear hmk
  have hn8 : (ns.length : Int) ≤ 8 := by omega
  go_enter Tryd.func49, Tryd.ntmps49
  go_wp2_with fail
  refine (Hmk.out _ ((Below.refl _ _).alloc (by simp) _)).mono ?_
  rintro e w2 ⟨rfl, hz⟩
  have xr : Bx w2 (w.heap.size + 2) 27 #[.int .i64 0, .string (bs []), .string (bs [])] := by
    have h := Bx.new ((w.alloc (.cells #[.int .i64 a.n, .string (bs a.set), .string (bs a.rel)] 27)).alloc (.cells #[.slice A ns.length cap] 24)) 27 #[.int .i64 0, .string (bs []), .string (bs [])]
    rw [World.size_alloc, World.size_alloc] at h
    exact h.call hz
  have HB := Lib.hid ((((((Below.refl w.heap.size w).alloc (Nat.le_refl _) (.cells #[.int .i64 a.n, .string (bs a.set), .string (bs a.rel)] 27)).alloc (by simp) (.cells #[.slice A ns.length cap] 24)).alloc (by simp; omega) (.cells #[.int .i64 0, .string (bs []), .string (bs [])] 27)).trans (hz.mono (by simp; omega))))
  obtain ⟨d0, d1, d2⟩ := box_load xr
  have f0 := xr.free 0
  have f1 := xr.free 1
  have f2 := xr.free 2
  have Xr := Lib.hid xr
  clear hz xr
  go_wp2_with fail
  have y1 := ((Xr.out.set 0 (.int .i64 (a.part ns).n)).set 1 (.string (bs (a.part ns).set))).set 2 (.string (bs (a.part ns).rel))
  obtain ⟨q0, q1, q2⟩ := box_load (a := .int .i64 (a.part ns).n) (b := .string (bs (a.part ns).set)) (c := .string (bs (a.part ns).rel)) y1
  refine bodyPost_ret (v := stA (a.part ns)) ?_ rfl ⟨rfl, ?_⟩
  · simp [results, Tryd.results49, go_sem, q0, q1, q2]
  · exact ((HB.out.setCell (by simp; omega) _).setCell (by simp; omega) _).setCell (by simp; omega) _

end Go.Proofs.YtgnmlijfenjehaaDoor
