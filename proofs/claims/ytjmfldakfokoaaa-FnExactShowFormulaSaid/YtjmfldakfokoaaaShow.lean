/-
  The walk of the program's show over a tree. Condition: the formula has at most 300000 bytes.
-/
import Derived.Test.YtjmfldakfokoaaaText
import Derived.Test.YtjmfldakfokoaaaSpecPush
import Derived.Deep.RegionHeld3
import Derived.Deep.RegionWith
import Derived.Deep.QuietTactic
import Derived.BigQuiet
namespace Go.Proofs.Ytjmfldakfokoaaa
open Go.RowKit
open Pl
set_option linter.unusedSimpArgs false

theorem ret_str {a b : ByteArray} (h : a = b) : Ending.returned (.string a) = .returned (.string b) := by rw [h]

theorem new_byte' (w : World) (b : UInt8) : (w.alloc (.cells #[.int .u8 b.toNat] 5)).ownsRow 0 5 1 (.slice (some ⟨w.heap.size, 0, none⟩) 1 1) 1 ([b].map byteV) :=
  ⟨rfl, .inr ⟨w.heap.size, 1, _, rfl, Nat.zero_le _, heap_alloc_new w _, Nat.le_refl _, by unfold maxLen; omega, rfl, rfl⟩⟩

/-- the first and the second part's places -/
theorem parts_at {S : Nat → Prop} {w : World} {ps : List Fm} {ks : List Nat} {psv : Value} {n : Nat} (hr : w.ownsRow 0 39 1 psv ks.length (ks.map kidV)) (ht : TreesIn S w ps ks) (hn : ps.length = n) (h0 : 0 < n) :
    ∃ g cap, psv = .slice (some ⟨g, 0, none⟩) n cap ∧ g < w.heap.size ∧ ∀ (j : Nat) (p : Fm), ps[j]? = some p → ∃ k, w.cell? ⟨g, j, none⟩ = some (kidV k) ∧ TreeIn S w p k := by
  have hl : ks.length = n := by rw [ht.1, hn]
  rw [hl] at hr
  obtain ⟨g, cap, rfl, _, _, _, hg, hc⟩ := row_open hr h0
  refine ⟨g, cap, rfl, hg, fun j p hp => ?_⟩
  obtain ⟨hj, _⟩ := List.getElem?_eq_some_iff.1 hp
  have hjk : j < ks.length := by rw [hl, ← hn]; exact hj
  refine ⟨ks[j], ?_, ht.2 j p ks[j] hp (List.getElem?_eq_getElem hjk)⟩
  rw [hc j (by omega), List.getElem?_map, List.getElem?_eq_getElem hjk]
  rfl

set_option maxHeartbeats 4000000 in
set_option maxRecDepth 100000 in
theorem show_count (p : Fm) (b : Nat) (w : World) (ob : UInt8) (hob : ∀ n ∈ [116, 102, 80, 61, 69, 33, 38, 124, 65, (83 : Int)], ((ob.toNat : Int) == n) = false)
    (vsv : Value) (vl : List UInt8) (g cap k0 : Nat) (hvl : vl.length ≤ 1)
    (hc0 : w.cell? ⟨b, 0, none⟩ = some (.int .u8 ob.toNat)) (hc1 : w.cell? ⟨b, 1, none⟩ = some vsv) (hc2 : w.cell? ⟨b, 2, none⟩ = some (.slice (some ⟨g, 0, none⟩) 1 cap))
    (hk0 : w.cell? ⟨g, 0, none⟩ = some (kidV k0)) (hcv : (convert 32 9 vsv).run Try.prog w = .ok (.string (bs vl)) w)
    (hcall : ∀ W, Below w.heap.size w W → Calls Try.prog 37 #[kidV k0] W fun e w' => e = .returned (.string (bs p.showL)) ∧ Below W.heap.size W w') (hsp : (bs p.showL).size ≤ 6000000) :
    Calls Try.prog 37 #[kidV b] w fun e w' => e = .returned (.string (bs ([97, 116, 32, 108, 101, 97, 115, 116, 32] ++ [ob] ++ [32] ++ vl ++ [58, 32] ++ p.showL))) ∧ Below w.heap.size w w' := by
  have hlb := World.block_lt_of_cell? w _ hc0
  have hg := World.block_lt_of_cell? w _ hk0
  have Hcall := Lib.hid hcall
  have t116 : ((ob.toNat : Int) == 116) = false := hob 116 (by simp)
  have t102 : ((ob.toNat : Int) == 102) = false := hob 102 (by simp)
  have t80 : ((ob.toNat : Int) == 80) = false := hob 80 (by simp)
  have t61 : ((ob.toNat : Int) == 61) = false := hob 61 (by simp)
  have t69 : ((ob.toNat : Int) == 69) = false := hob 69 (by simp)
  have t33 : ((ob.toNat : Int) == 33) = false := hob 33 (by simp)
  have t38 : ((ob.toNat : Int) == 38) = false := hob 38 (by simp)
  have t124 : ((ob.toNat : Int) == 124) = false := hob 124 (by simp)
  have t65 : ((ob.toNat : Int) == 65) = false := hob 65 (by simp)
  have t83 : ((ob.toNat : Int) == 83) = false := hob 83 (by simp)
  have hso : (bs [ob]).size = 1 := bs_size _
  have hsv : (bs vl).size ≤ 1 := by rw [bs_size]; exact hvl
  have ha0 : ∀ o, (w.alloc o).cell? ⟨b, 0, none⟩ = some (.int .u8 ob.toNat) := fun o => (World.cell?_of_block (w := w) (Below.heap_alloc w o b hlb)).trans hc0
  have ha2 : ∀ o, (w.alloc o).cell? ⟨b, 2, none⟩ = some (.slice (some ⟨g, 0, none⟩) 1 cap) := fun o => (World.cell?_of_block (w := w) (Below.heap_alloc w o b hlb)).trans hc2
  have hak : ∀ o, (w.alloc o).cell? ⟨g, 0, none⟩ = some (kidV k0) := fun o => (World.cell?_of_block (w := w) (Below.heap_alloc w o g hg)).trans hk0
  have hcn : (convert 32 9 (.slice (some ⟨w.heap.size, 0, none⟩) 1 1)).run Try.prog (w.alloc (.cells #[.int .u8 ob.toNat] 5)).drew = .ok (.string (bs [ob])) (w.alloc (.cells #[.int .u8 ob.toNat] 5)).drew := conv_row (new_byte w ob)
  have a1 : ∀ W, (Op.stringOp .add (⟨#[97, 116, 32, 108, 101, 97, 115, 116, 32]⟩) (bs [ob])).run Try.prog W = .ok (.string (⟨#[97, 116, 32, 108, 101, 97, 115, 116, 32]⟩ ++ bs [ob])) W := fun W => run_string_add_sum W _ _ (by simp only [ByteArray.size_append', ByteArray.size_mk', List.size_toArray, List.length_cons, List.length_nil]; omega)
  have a2 : ∀ W, (Op.stringOp .add (⟨#[97, 116, 32, 108, 101, 97, 115, 116, 32]⟩ ++ bs [ob]) (⟨#[32]⟩)).run Try.prog W = .ok (.string (⟨#[97, 116, 32, 108, 101, 97, 115, 116, 32]⟩ ++ bs [ob] ++ ⟨#[32]⟩)) W := fun W => run_string_add_sum W _ _ (by simp only [ByteArray.size_append', ByteArray.size_mk', List.size_toArray, List.length_cons, List.length_nil]; omega)
  have a3 : ∀ W, (Op.stringOp .add (⟨#[97, 116, 32, 108, 101, 97, 115, 116, 32]⟩ ++ bs [ob] ++ ⟨#[32]⟩) (bs vl)).run Try.prog W = .ok (.string (⟨#[97, 116, 32, 108, 101, 97, 115, 116, 32]⟩ ++ bs [ob] ++ ⟨#[32]⟩ ++ bs vl)) W := fun W => run_string_add_sum W _ _ (by simp only [ByteArray.size_append', ByteArray.size_mk', List.size_toArray, List.length_cons, List.length_nil]; omega)
  have a4 : ∀ W, (Op.stringOp .add (⟨#[97, 116, 32, 108, 101, 97, 115, 116, 32]⟩ ++ bs [ob] ++ ⟨#[32]⟩ ++ bs vl) (⟨#[58, 32]⟩)).run Try.prog W = .ok (.string (⟨#[97, 116, 32, 108, 101, 97, 115, 116, 32]⟩ ++ bs [ob] ++ ⟨#[32]⟩ ++ bs vl ++ ⟨#[58, 32]⟩)) W := fun W => run_string_add_sum W _ _ (by simp only [ByteArray.size_append', ByteArray.size_mk', List.size_toArray, List.length_cons, List.length_nil]; omega)
  have a5 : ∀ W, (Op.stringOp .add (⟨#[97, 116, 32, 108, 101, 97, 115, 116, 32]⟩ ++ bs [ob] ++ ⟨#[32]⟩ ++ bs vl ++ ⟨#[58, 32]⟩) (bs p.showL)).run Try.prog W = .ok (.string (⟨#[97, 116, 32, 108, 101, 97, 115, 116, 32]⟩ ++ bs [ob] ++ ⟨#[32]⟩ ++ bs vl ++ ⟨#[58, 32]⟩ ++ bs p.showL)) W := fun W => run_string_add_sum W _ _ (by simp only [ByteArray.size_append', ByteArray.size_mk', List.size_toArray, List.length_cons, List.length_nil]; omega)
  have Hc0 := Lib.hid hc0
  have Hc2 := Lib.hid hc2
  have Hk0 := Lib.hid hk0
  clear hcall hob hvl
  go_enter Try.func37, Try.ntmps37
  go_upto_region 23 with (fail)
  go_cut [2] (fun x wx => x = .string (bs ([97, 116, 32, 108, 101, 97, 115, 116, 32] ++ [ob] ++ [32] ++ vl ++ [58, 32] ++ p.showL)) ∧ Below w.heap.size w wx)
  case first =>
    go_region_held (fun w' => w'.cell? ⟨b, 0, none⟩ = some (.int .u8 ob.toNat) ∧ w'.cell? ⟨b, 2, none⟩ = some (.slice (some ⟨g, 0, none⟩) 1 cap) ∧ w'.cell? ⟨g, 0, none⟩ = some (kidV k0)) (first | go_keep | exact ⟨d0, d2, dk⟩) (first | (go_at_call 37; ((with_reducible refine (Hcall.out _ ((Below.refl _ _).drew)).mono ?_); rintro e w1 ⟨rfl, hb1⟩; have hb1' : Below w.heap.size w w1 := (Below.refl w.heap.size w).drew.trans hb1; have d0 := (hb1'.cell hlb (p := ⟨b, 0, none⟩)).trans Hc0.out; have d2 := (hb1'.cell hlb (p := ⟨b, 2, none⟩)).trans Hc2.out; have dk := (hb1'.cell hg (p := ⟨g, 0, none⟩)).trans Hk0.out; have hcn1 := conv_row (new_byte' w1 ob))) | (go_at_call 37; ((with_reducible refine (Hcall.out _ (((Below.refl _ _).alloc (Nat.le_refl _) _).drew)).mono ?_); rintro e w1 ⟨rfl, hb1⟩; have hb1' : Below w.heap.size w w1 := ((Below.refl w.heap.size w).alloc (Nat.le_refl _) _).drew.trans (hb1.mono (by simp)); have d0 := (hb1'.cell hlb (p := ⟨b, 0, none⟩)).trans Hc0.out; have d2 := (hb1'.cell hlb (p := ⟨b, 2, none⟩)).trans Hc2.out; have dk := (hb1'.cell hg (p := ⟨g, 0, none⟩)).trans Hk0.out; have hcn1 := conv_row (ownsRow_world (new_byte w ob) hb1))))
    all_goals
      go_wp2_with fail
      go_meet
      case rel => first
        | exact ⟨str_eq (eq_bs (by simp [bs_data])), hb1'⟩
        | exact ⟨str_eq (eq_bs (by simp [bs_data])), hb1'.alloc hb1'.size _⟩
  case rest =>
    obtain ⟨rfl, hbc⟩ := hcut
    clear hc0 hc1 hc2 hcv hk0 hcn
    go_wp2_with fail
    go_ret
    exact ⟨rfl, hbc⟩

set_option maxHeartbeats 4000000 in
set_option maxRecDepth 100000 in
theorem show_calls (n : Nat) : ∀ (f : Fm) (b : Nat) (S : Nat → Prop) (w : World), f.size ≤ n → TreeIn S w f b → f.text.length ≤ 300000 →
    Calls Try.prog 37 #[kidV b] w fun e w' => e = .returned (.string (bs f.showL)) ∧ Below w.heap.size w w' := by
  induction n with
  | zero => intro f b S w hn _ _; cases f <;> simp [Fm.size] at hn
  | succ n ih =>
    intro f b S w hn ht hl
    obtain ⟨ks, vsv, psv, hc0, hc1, hc2, _, _, hr1, hr2, hts⟩ := node_cells ht
    have hcv : (convert 32 9 vsv).run Try.prog w = .ok (.string (bs (f.vars.map vb))) w := conv_row (w := w) (base := 0) (n := f.vars.length) (by rw [← vars_bytes]; exact hr1)
    have hlb := World.block_lt_of_cell? w _ hc0
    have Ih := Lib.hid ih
    have Hr2 := Lib.hid hr2
    have Hts := Lib.hid hts
    clear ih hr1 hr2 hts
    cases f with
    | tru =>
      simp only [Fm.op, Fm.vars, List.map_nil] at hc0 hcv
      clear ht
      go_enter Try.func37, Try.ntmps37
      go_wp2_with fail
      go_ret
      exact ⟨rfl, Below.refl _ _⟩
    | fls =>
      simp only [Fm.op, Fm.vars, List.map_nil] at hc0 hcv
      clear ht
      go_enter Try.func37, Try.ntmps37
      go_wp2_with fail
      go_ret
      exact ⟨rfl, Below.refl _ _⟩
    | pr v =>
      simp only [Fm.op, Fm.vars, List.map_cons, List.map_nil] at hc0 hcv
      have hsz : (bs [vb v]).size = 1 := bs_size _
      clear ht
      go_enter Try.func37, Try.ntmps37
      go_wp2_with fail
      go_ret
      exact ⟨ret_str (eq_bs (by simp [bs_data, Fm.showL])), Below.refl _ _⟩
    | eq v u =>
      simp only [Fm.op, Fm.vars, List.map_cons, List.map_nil] at hc0 hcv
      have hsz : (bs [vb v, vb u]).size = 2 := bs_size _
      have he1 : (bs [vb v, vb u]).extract 0 1 = bs [vb v] := eq_bs (by simp [bs_data])
      have he2 : (bs [vb v, vb u]).extract 1 2 = bs [vb u] := eq_bs (by simp [bs_data])
      have hs1 : (bs [vb v]).size = 1 := bs_size _
      have hs2 : (bs [vb u]).size = 1 := bs_size _
      clear ht
      go_enter Try.func37, Try.ntmps37
      go_upto_region 10 with (fail)
      go_quiet (fail)
      go_wp2_with fail
      go_ret
      exact ⟨ret_str (eq_bs (by simp [bs_data, Fm.showL])), below_drewN (Below.refl _ _) _⟩
    | rel v u =>
      simp only [Fm.op, Fm.vars, List.map_cons, List.map_nil] at hc0 hcv
      have hsz : (bs [vb v, vb u]).size = 2 := bs_size _
      have he1 : (bs [vb v, vb u]).extract 0 1 = bs [vb v] := eq_bs (by simp [bs_data])
      have he2 : (bs [vb v, vb u]).extract 1 2 = bs [vb u] := eq_bs (by simp [bs_data])
      have hs1 : (bs [vb v]).size = 1 := bs_size _
      have hs2 : (bs [vb u]).size = 1 := bs_size _
      clear ht
      go_enter Try.func37, Try.ntmps37
      go_upto_region 12 with (fail)
      go_quiet (fail)
      go_wp2_with fail
      go_ret
      exact ⟨ret_str (eq_bs (by simp [bs_data, Fm.showL])), below_drewN (Below.refl _ _) _⟩
    | neg p =>
      obtain ⟨g, cap, rfl, hg, hat⟩ := parts_at Hr2.out Hts.out (n := 1) rfl (by decide)
      obtain ⟨k0, hk0, ht0⟩ := hat 0 p rfl
      have hcall : ∀ W, Below w.heap.size w W → Calls Try.prog 37 #[kidV k0] W fun e w' => e = .returned (.string (bs p.showL)) ∧ Below W.heap.size W w' := fun W hW => Ih.out p k0 S W (by simp [Fm.size] at hn; omega) (ht0.world hW) (by simp [Fm.text] at hl; omega)
      have Hcall := Lib.hid hcall
      have hsp : (bs p.showL).size ≤ 6000000 := by rw [bs_size]; have := show_le p; simp [Fm.text] at hl; omega
      simp only [Fm.op, Fm.vars, List.map_cons, List.map_nil] at hc0 hcv
      clear ht hat hcall ht0
      go_enter Try.func37, Try.ntmps37
      go_wp2_with (go_at_call 37; refine (Hcall.out _ (Below.refl _ _)).mono ?_; rintro e w1 ⟨rfl, hb1⟩)
      go_ret
      exact ⟨ret_str (eq_bs (by simp [bs_data, Fm.showL])), hb1⟩
    | con p q =>
      obtain ⟨g, cap, rfl, hg, hat⟩ := parts_at Hr2.out Hts.out (n := 2) rfl (by decide)
      obtain ⟨k0, hk0, ht0⟩ := hat 0 p rfl
      obtain ⟨k1, hk1, ht1⟩ := hat 1 q rfl
      have hcall0 : ∀ W, Below w.heap.size w W → Calls Try.prog 37 #[kidV k0] W fun e w' => e = .returned (.string (bs p.showL)) ∧ Below W.heap.size W w' := fun W hW => Ih.out p k0 S W (by simp [Fm.size] at hn; omega) (ht0.world hW) (by simp [Fm.text] at hl; omega)
      have hcall1 : ∀ W, Below w.heap.size w W → Calls Try.prog 37 #[kidV k1] W fun e w' => e = .returned (.string (bs q.showL)) ∧ Below W.heap.size W w' := fun W hW => Ih.out q k1 S W (by simp [Fm.size] at hn; omega) (ht1.world hW) (by simp [Fm.text] at hl; omega)
      have Hcall0 := Lib.hid hcall0
      have Hcall1 := Lib.hid hcall1
      have hsp : (bs p.showL).size ≤ 6000000 := by rw [bs_size]; have := show_le p; simp [Fm.text] at hl; omega
      have hsq : (bs q.showL).size ≤ 6000000 := by rw [bs_size]; have := show_le q; simp [Fm.text] at hl; omega
      simp only [Fm.op, Fm.vars, List.map_cons, List.map_nil] at hc0 hcv
      have Hc2 := Lib.hid hc2
      have Hk0 := Lib.hid hk0
      have Hk1 := Lib.hid hk1
      have a1 : ∀ W, (Op.stringOp .add ⟨#[40]⟩ (bs p.showL)).run Try.prog W = .ok (.string (⟨#[40]⟩ ++ bs p.showL)) W := fun W => run_string_add_sum W _ _ (by simp only [ByteArray.size_append', ByteArray.size_mk', List.size_toArray, List.length_cons, List.length_nil]; omega)
      have a2 : ∀ W, (Op.stringOp .add (⟨#[40]⟩ ++ bs p.showL) ⟨#[32, 97, 110, 100, 32]⟩).run Try.prog W = .ok (.string (⟨#[40]⟩ ++ bs p.showL ++ ⟨#[32, 97, 110, 100, 32]⟩)) W := fun W => run_string_add_sum W _ _ (by simp only [ByteArray.size_append', ByteArray.size_mk', List.size_toArray, List.length_cons, List.length_nil]; omega)
      have a3 : ∀ W, (Op.stringOp .add (⟨#[40]⟩ ++ bs p.showL ++ ⟨#[32, 97, 110, 100, 32]⟩) (bs q.showL)).run Try.prog W = .ok (.string (⟨#[40]⟩ ++ bs p.showL ++ ⟨#[32, 97, 110, 100, 32]⟩ ++ bs q.showL)) W := fun W => run_string_add_sum W _ _ (by simp only [ByteArray.size_append', ByteArray.size_mk', List.size_toArray, List.length_cons, List.length_nil]; omega)
      have a4 : ∀ W, (Op.stringOp .add (⟨#[40]⟩ ++ bs p.showL ++ ⟨#[32, 97, 110, 100, 32]⟩ ++ bs q.showL) ⟨#[41]⟩).run Try.prog W = .ok (.string (⟨#[40]⟩ ++ bs p.showL ++ ⟨#[32, 97, 110, 100, 32]⟩ ++ bs q.showL ++ ⟨#[41]⟩)) W := fun W => run_string_add_sum W _ _ (by simp only [ByteArray.size_append', ByteArray.size_mk', List.size_toArray, List.length_cons, List.length_nil]; omega)
      clear ht hat hcall0 hcall1 ht0 ht1
      go_enter Try.func37, Try.ntmps37
      go_upto_region 16 with (fail)
      go_cut [2] (fun v wx => v = .string (bs (Fm.con p q).showL) ∧ Below w.heap.size w wx)
      case first =>
        go_region_held3 (fun w' => w'.cell? ⟨b, 2, none⟩ = some (.slice (some ⟨g, 0, none⟩) 2 cap) ∧ w'.cell? ⟨g, 0, none⟩ = some (kidV k0) ∧ w'.cell? ⟨g, 1, none⟩ = some (kidV k1)) (first | go_keep | exact ⟨d2, dk0, dk1⟩ | exact ⟨e2, ek0, ek1⟩) (first | (go_at_call 37; ((with_reducible refine (Hcall0.out _ ((Below.refl _ _).drew)).mono ?_); rintro e w1 ⟨rfl, hb1⟩; have hb1' : Below w.heap.size w w1 := (Below.refl w.heap.size w).drew.trans hb1; have d2 := (hb1'.cell hlb (p := ⟨b, 2, none⟩)).trans Hc2.out; have dk0 := (hb1'.cell hg (p := ⟨g, 0, none⟩)).trans Hk0.out; have dk1 := (hb1'.cell hg (p := ⟨g, 1, none⟩)).trans Hk1.out)) | (go_at_call 37; ((with_reducible refine (Hcall1.out _ hb1').mono ?_); rintro e w2 ⟨rfl, hb2⟩; have hb2' : Below w.heap.size w w2 := hb1'.trans (hb2.mono hb1'.size); have e2 := (hb2'.cell hlb (p := ⟨b, 2, none⟩)).trans Hc2.out; have ek0 := (hb2'.cell hg (p := ⟨g, 0, none⟩)).trans Hk0.out; have ek1 := (hb2'.cell hg (p := ⟨g, 1, none⟩)).trans Hk1.out)))
        all_goals
          go_wp2_with fail
          go_meet
          case rel => exact ⟨str_eq (eq_bs (by simp [bs_data, Fm.showL])), hb1'.trans (hb2.mono hb1'.size)⟩
      case rest =>
        obtain ⟨rfl, hbc⟩ := hcut
        clear hc0 hc1 hc2 hcv hk0 hk1
        go_wp2_with fail
        go_ret
        exact ⟨rfl, hbc⟩
    | dis p q =>
      obtain ⟨g, cap, rfl, hg, hat⟩ := parts_at Hr2.out Hts.out (n := 2) rfl (by decide)
      obtain ⟨k0, hk0, ht0⟩ := hat 0 p rfl
      obtain ⟨k1, hk1, ht1⟩ := hat 1 q rfl
      have hcall0 : ∀ W, Below w.heap.size w W → Calls Try.prog 37 #[kidV k0] W fun e w' => e = .returned (.string (bs p.showL)) ∧ Below W.heap.size W w' := fun W hW => Ih.out p k0 S W (by simp [Fm.size] at hn; omega) (ht0.world hW) (by simp [Fm.text] at hl; omega)
      have hcall1 : ∀ W, Below w.heap.size w W → Calls Try.prog 37 #[kidV k1] W fun e w' => e = .returned (.string (bs q.showL)) ∧ Below W.heap.size W w' := fun W hW => Ih.out q k1 S W (by simp [Fm.size] at hn; omega) (ht1.world hW) (by simp [Fm.text] at hl; omega)
      have Hcall0 := Lib.hid hcall0
      have Hcall1 := Lib.hid hcall1
      have hsp : (bs p.showL).size ≤ 6000000 := by rw [bs_size]; have := show_le p; simp [Fm.text] at hl; omega
      have hsq : (bs q.showL).size ≤ 6000000 := by rw [bs_size]; have := show_le q; simp [Fm.text] at hl; omega
      simp only [Fm.op, Fm.vars, List.map_cons, List.map_nil] at hc0 hcv
      have Hc2 := Lib.hid hc2
      have Hk0 := Lib.hid hk0
      have Hk1 := Lib.hid hk1
      have a1 : ∀ W, (Op.stringOp .add ⟨#[40]⟩ (bs p.showL)).run Try.prog W = .ok (.string (⟨#[40]⟩ ++ bs p.showL)) W := fun W => run_string_add_sum W _ _ (by simp only [ByteArray.size_append', ByteArray.size_mk', List.size_toArray, List.length_cons, List.length_nil]; omega)
      have a2 : ∀ W, (Op.stringOp .add (⟨#[40]⟩ ++ bs p.showL) ⟨#[32, 111, 114, 32]⟩).run Try.prog W = .ok (.string (⟨#[40]⟩ ++ bs p.showL ++ ⟨#[32, 111, 114, 32]⟩)) W := fun W => run_string_add_sum W _ _ (by simp only [ByteArray.size_append', ByteArray.size_mk', List.size_toArray, List.length_cons, List.length_nil]; omega)
      have a3 : ∀ W, (Op.stringOp .add (⟨#[40]⟩ ++ bs p.showL ++ ⟨#[32, 111, 114, 32]⟩) (bs q.showL)).run Try.prog W = .ok (.string (⟨#[40]⟩ ++ bs p.showL ++ ⟨#[32, 111, 114, 32]⟩ ++ bs q.showL)) W := fun W => run_string_add_sum W _ _ (by simp only [ByteArray.size_append', ByteArray.size_mk', List.size_toArray, List.length_cons, List.length_nil]; omega)
      have a4 : ∀ W, (Op.stringOp .add (⟨#[40]⟩ ++ bs p.showL ++ ⟨#[32, 111, 114, 32]⟩ ++ bs q.showL) ⟨#[41]⟩).run Try.prog W = .ok (.string (⟨#[40]⟩ ++ bs p.showL ++ ⟨#[32, 111, 114, 32]⟩ ++ bs q.showL ++ ⟨#[41]⟩)) W := fun W => run_string_add_sum W _ _ (by simp only [ByteArray.size_append', ByteArray.size_mk', List.size_toArray, List.length_cons, List.length_nil]; omega)
      clear ht hat hcall0 hcall1 ht0 ht1
      go_enter Try.func37, Try.ntmps37
      go_upto_region 18 with (fail)
      go_cut [2] (fun v wx => v = .string (bs (Fm.dis p q).showL) ∧ Below w.heap.size w wx)
      case first =>
        go_region_held3 (fun w' => w'.cell? ⟨b, 2, none⟩ = some (.slice (some ⟨g, 0, none⟩) 2 cap) ∧ w'.cell? ⟨g, 0, none⟩ = some (kidV k0) ∧ w'.cell? ⟨g, 1, none⟩ = some (kidV k1)) (first | go_keep | exact ⟨d2, dk0, dk1⟩ | exact ⟨e2, ek0, ek1⟩) (first | (go_at_call 37; ((with_reducible refine (Hcall0.out _ ((Below.refl _ _).drew)).mono ?_); rintro e w1 ⟨rfl, hb1⟩; have hb1' : Below w.heap.size w w1 := (Below.refl w.heap.size w).drew.trans hb1; have d2 := (hb1'.cell hlb (p := ⟨b, 2, none⟩)).trans Hc2.out; have dk0 := (hb1'.cell hg (p := ⟨g, 0, none⟩)).trans Hk0.out; have dk1 := (hb1'.cell hg (p := ⟨g, 1, none⟩)).trans Hk1.out)) | (go_at_call 37; ((with_reducible refine (Hcall1.out _ hb1').mono ?_); rintro e w2 ⟨rfl, hb2⟩; have hb2' : Below w.heap.size w w2 := hb1'.trans (hb2.mono hb1'.size); have e2 := (hb2'.cell hlb (p := ⟨b, 2, none⟩)).trans Hc2.out; have ek0 := (hb2'.cell hg (p := ⟨g, 0, none⟩)).trans Hk0.out; have ek1 := (hb2'.cell hg (p := ⟨g, 1, none⟩)).trans Hk1.out)))
        all_goals
          go_wp2_with fail
          go_meet
          case rel => exact ⟨str_eq (eq_bs (by simp [bs_data, Fm.showL])), hb1'.trans (hb2.mono hb1'.size)⟩
      case rest =>
        obtain ⟨rfl, hbc⟩ := hcut
        clear hc0 hc1 hc2 hcv hk0 hk1
        go_wp2_with fail
        go_ret
        exact ⟨rfl, hbc⟩
    | qu q v p =>
      obtain ⟨g, cap, rfl, hg, hat⟩ := parts_at Hr2.out Hts.out (n := 1) rfl (by decide)
      obtain ⟨k0, hk0, ht0⟩ := hat 0 p rfl
      have hcall : ∀ W, Below w.heap.size w W → Calls Try.prog 37 #[kidV k0] W fun e w' => e = .returned (.string (bs p.showL)) ∧ Below W.heap.size W w' := fun W hW => Ih.out p k0 S W (by simp [Fm.size] at hn; omega) (ht0.world hW) (by simp [Fm.text] at hl; omega)
      have Hcall := Lib.hid hcall
      have hsp : (bs p.showL).size ≤ 6000000 := by rw [bs_size]; have := show_le p; simp [Fm.text] at hl; omega
      simp only [Fm.op, Fm.vars, List.map_cons, List.map_nil] at hc0 hcv
      have hsv : (bs [vb v]).size = 1 := bs_size _
      cases q with
      | A =>
        simp only [Qn.b] at hc0
        clear ht hat hcall ht0
        go_enter Try.func37, Try.ntmps37
        go_wp2_with (go_at_call 37; refine (Hcall.out _ (Below.refl _ _)).mono ?_; rintro e w1 ⟨rfl, hb1⟩)
        go_ret
        exact ⟨ret_str (eq_bs (by simp [bs_data, Fm.showL])), hb1⟩
      | S =>
        simp only [Qn.b] at hc0
        clear ht hat hcall ht0
        go_enter Try.func37, Try.ntmps37
        go_wp2_with (go_at_call 37; refine (Hcall.out _ (Below.refl _ _)).mono ?_; rintro e w1 ⟨rfl, hb1⟩)
        go_ret
        exact ⟨ret_str (eq_bs (by simp [bs_data, Fm.showL])), hb1⟩
      | c2 =>
        simp only [Qn.b] at hc0
        exact show_count p b w 50 (by decide) vsv [vb v] g cap k0 (by simp) hc0 hc1 hc2 hk0 hcv Hcall.out hsp
      | c3 =>
        simp only [Qn.b] at hc0
        exact show_count p b w 51 (by decide) vsv [vb v] g cap k0 (by simp) hc0 hc1 hc2 hk0 hcv Hcall.out hsp
      | c4 =>
        simp only [Qn.b] at hc0
        exact show_count p b w 52 (by decide) vsv [vb v] g cap k0 (by simp) hc0 hc1 hc2 hk0 hcv Hcall.out hsp

end Go.Proofs.Ytjmfldakfokoaaa
