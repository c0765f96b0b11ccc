/-
  Laws of the functions that the claim reaches, one after the other (packed by a program of the prover's: SpecRank, Strs, Text, Push, SpecPush, Join, Not, JoinF, Map, KeyP, Cache, IsTrue, DecA). Conditions: texts below the reach.
-/
import Derived.Test.YtpaleogkgfclnaaGreatDoorPg3
import Derived.OwnWalk
import Derived.Deep.QuietTactic
import Derived.BigQuiet
import Derived.WalkSmall
import Derived.Laws.OwnMore
import Derived.Below
import Derived.Test.YtpaleogkgfclnaaGreatDoorPg2
import Derived.Deep.DeepCutAuto
import Derived.Deep.LoopGhost
import Derived.RegionTactic
import Derived.Deep.CutBlock
import Derived.Maps.Own
import Derived.LaidEqlPtr
import Derived.Deep.RegionLawGrows
import Derived.Test.YtpaleogkgfclnaaGreatDoorPg0
set_option linter.unusedSimpArgs false
set_option linter.unusedVariables false

namespace Go.Proofs.YtpaleogkgfclnaaGreatDoor
open Go.RowKit
open Pl

theorem findB_quant (b : UInt8) : decide (0 ≤ findB b [65, 83, 50, 51, 52]) = isQuB b := by
  have h := findB_nonneg (c := b) (l := [65, 83, 50, 51, 52])
  rw [Bool.eq_iff_iff, decide_eq_true_iff, h]
  simp [isQuB, or_assoc]

/-- a formula at an index -/
theorem at_op {s : ByteArray} {k : Nat} {f : Fm} {r : List UInt8} (h : s.data.toList.drop k = f.text ++ r) :
    ∃ hk : k < s.size, s[k] = f.op ∧ k + f.text.length ≤ s.size := by
  have h1 := congrArg List.length h
  rw [List.length_drop, List.length_append, ← Lib.size_eq] at h1
  have hp := f.text_pos
  have hk : k < s.size := by omega
  refine ⟨hk, ?_, by omega⟩
  rw [drop_at hk, Fm.text_eq] at h
  simp only [List.cons_append, List.cons.injEq] at h
  exact h.1

theorem at_two {l : List UInt8} {k : Nat} {b : UInt8} {p q : Fm} {r : List UInt8} (h : l.drop k = b :: (p.text ++ q.text) ++ r) :
    l.drop (k + 1) = p.text ++ (q.text ++ r) ∧ l.drop (k + 1 + p.text.length) = q.text ++ r := by
  have h1 : l.drop (k + 1) = p.text ++ (q.text ++ r) := drop_add_of (p := [b]) (by simpa using h)
  exact ⟨h1, drop_add_of h1⟩

theorem at_one {l : List UInt8} {k : Nat} {b : UInt8} {p : Fm} {r : List UInt8} (h : l.drop k = b :: p.text ++ r) : l.drop (k + 1) = p.text ++ r := drop_add_of (p := [b]) (by simpa using h)
theorem at_qu {l : List UInt8} {k : Nat} {b c : UInt8} {p : Fm} {r : List UInt8} (h : l.drop k = b :: c :: p.text ++ r) : l.drop (k + 2) = p.text ++ r := drop_add_of (p := [b, c]) (by simpa using h)

/-- -1 for a text that is no formula, else a number -/
noncomputable def numV (l : List UInt8) (g : Fm → Nat) : Int := match parse l with | some (f, []) => if l.length ≤ 4000 then (g f : Int) else -1 | _ => -1

theorem numV_yes {l : List UInt8} {f : Fm} (g : Fm → Nat) (h : l = f.text) (hl : l.length ≤ 4000) : numV l g = g f := by
  unfold numV
  rw [parse_some.2 (show l = f.text ++ [] by rw [h]; simp)]
  simp [hl]

theorem numV_no {l : List UInt8} (g : Fm → Nat) (h : ¬ IsFm l) : numV l g = -1 := by
  unfold numV
  cases hp : parse l with
  | none => rfl
  | some x =>
    obtain ⟨f, r⟩ := x
    cases r with
    | nil =>
      have := parse_some.1 hp
      by_cases hl : l.length ≤ 4000
      · exact absurd ⟨hl, f, by simpa using this⟩ h
      · simp [hl]
    | cons a r => rfl

/-- a formula, or not -/
theorem fm_cases (s : ByteArray) : (fmB s.data.toList = false ∧ ¬ IsFm s.data.toList) ∨ ∃ f : Fm, fmB s.data.toList = true ∧ s.data.toList = f.text ∧ s.size ≤ 4000 ∧ f.text.length ≤ 4000 := by
  by_cases h : IsFm s.data.toList
  · obtain ⟨hl, f, hf⟩ := h
    exact .inr ⟨f, fmB_true.2 ⟨hl, f, hf⟩, hf, by rw [Lib.size_eq]; exact hl, by rw [← hf]; exact hl⟩
  · exact .inl ⟨fmB_false.2 h, h⟩

theorem RankOf_impl (s : ByteArray) (w : World) :
    Calls Tryz.prog 13 #[.string s] w fun e w' => e = .returned (.int .i64 (numV s.data.toList Fm.rank)) ∧ Below w.heap.size w w' := by
  rcases fm_cases s with ⟨hb, hno⟩ | ⟨f, hb, hf, hs4, hl4⟩
  · have hv := numV_no Fm.rank hno
    rw [hv]
    have Hno := Lib.hid hno
    clear hb hv hno
    go_enter Tryz.func13, Tryz.ntmps13
    go_wp2_with (go_at_call 37; refine (parseFormula_no s w Hno.out).mono ?_; rintro e w1 ⟨rfl, hb1⟩)
    go_ret
    exact ⟨rfl, hb1⟩
  · have hv := numV_yes Fm.rank hf (by rw [hf]; exact hl4)
    rw [hv]
    have Hf := Lib.hid hf
    clear hb hv hf
    go_enter Tryz.func13, Tryz.ntmps13
    go_wp2_with (first | (go_at_call 37; refine (parseFormula_yes s f w hs4 Hf.out).mono ?_; rintro e w1 ⟨b, rfl, htr, hb1⟩; have Htr := Lib.hid htr; clear htr) | (go_at_call 39; refine (rank_calls f.size f b _ _ (Nat.le_refl _) Htr.out hl4).mono ?_; rintro e w' ⟨rfl, rfl⟩))
    go_ret
    exact ⟨rfl, hb1⟩


end Go.Proofs.YtpaleogkgfclnaaGreatDoor

namespace Go.Proofs.YtpaleogkgfclnaaGreatDoor
open Go.RowKit
open Pl
set_option linter.unusedSimpArgs false

/-- the row of strings that a slice names -/
def SRow (w : World) (v : Value) (zs : List ByteArray) : Prop :=
  (v = .slice none 0 0 ∧ zs = []) ∨ ∃ (a : Addr) (cap : Nat), v = .slice (some a) zs.length cap ∧ zs.length ≤ cap ∧ cap ≤ maxLen ∧ (∀ i, i < zs.length → w.cell? (a.add i) = some (.string (zs.getD i ByteArray.empty))) ∧ ∀ s ∈ zs, s.size ≤ maxLen

/-- the bytes of a row of strings -/
def szL (zs : List ByteArray) : Nat := (zs.map ByteArray.size).sum

theorem szL_take {zs : List ByteArray} {k : Nat} (h : k < zs.length) : szL (zs.take (k + 1)) = szL (zs.take k) + (zs.getD k ByteArray.empty).size := by
  unfold szL
  rw [List.take_succ_eq_append_getElem h, List.map_append, List.sum_append]
  simp [List.getD, h]

theorem add_zero_at (g i : Nat) : (⟨g, 0, none⟩ : Addr).add i = ⟨g, i, none⟩ := by
  unfold Addr.add; split <;> simp_all

theorem SRow_of {w : World} {base g n : Nat} {xs : List Value} {zs : List ByteArray} (h : w.ownsRow base 9 1 (.slice (some ⟨g, 0, none⟩) n n) n xs) (hn : n = zs.length) (hm : n ≤ maxLen)
    (hx : ∀ j, j < n → xs[j]? = some (.string (zs.getD j ByteArray.empty))) (hs : ∀ s ∈ zs, s.size ≤ maxLen) : SRow w (.slice (some ⟨g, 0, none⟩) n n) zs := by
  subst hn
  refine .inr ⟨_, _, rfl, Nat.le_refl _, hm, fun i hi => ?_, hs⟩
  have := h.cellAt i (by omega)
  rw [hx i hi] at this
  rw [add_zero_at]; exact this

theorem SRow.lt {w : World} {v : Value} {zs : List ByteArray} (h : SRow w v zs) (w' : World) (hb : Below w.heap.size w w') : SRow w' v zs := by
  rcases h with h | ⟨a, cap, rfl, hle, hm, hc, hs⟩
  · exact .inl h
  · exact .inr ⟨a, cap, rfl, hle, hm, fun i hi => (hb.cell (World.block_lt_of_cell? w (a.add i) (hc i hi))).trans (hc i hi), hs⟩

end Go.Proofs.YtpaleogkgfclnaaGreatDoor

namespace Go.Proofs.YtpaleogkgfclnaaGreatDoor
open Go.RowKit
open Pl

theorem bytes_push : ∀ (bytes : List UInt8) (s : ByteArray), (bytes.map fun b => (b.toNat : Int)).foldl (fun r n => r.push (UInt8.ofNat n.toNat)) s = bs (s.data.toList ++ bytes) := by
  intro bytes
  induction bytes with
  | nil => intro s; simp [bs_of]
  | cons b bytes ih =>
    intro s
    rw [List.map_cons, List.foldl_cons, ih]
    congr 1
    simp

/-- a row of bytes as a text -/
theorem conv_row {w : World} {base : Nat} {v : Value} {n : Nat} {bytes : List UInt8} (h : w.ownsRow base 5 1 v n (bytes.map byteV)) :
    (convert 22 9 v).run Tryz.prog w = .ok (.string (bs bytes)) w := by
  obtain ⟨a, cap, rfl, hl, hc⟩ := row_slice h
  rw [run_convert_bytes_string w _ _ 5 a n cap Tryz.underlying22 Tryz.underlying5 Tryz.underlying9]
  have hl2 : bytes.length = n := by simpa using hl
  cases a with
  | none =>
    have hn : n = 0 := by
      rcases Nat.eq_zero_or_pos n with h0 | h0
      · exact h0
      · obtain ⟨g, hg, _⟩ := hc 0 h0
        cases hg
    have hb : bytes = [] := List.eq_nil_of_length_eq_zero (by omega)
    subst hb
    rfl
  | some x =>
    rw [run_bytesToString w x n cap (bytes.map fun b => (b.toNat : Int))]
    · rw [bytes_push]; rfl
    · have hcells := run_loadCells (P := Tryz.prog) (w := w) x n (fun j => byteV (bytes.getD j 0)) (fun j hj => by
        obtain ⟨g, hg, hcell⟩ := hc j hj
        injection hg with hg
        subst hg
        have e1 : (⟨g, 0, none⟩ : Addr).add j = ⟨g, j, none⟩ := by unfold Addr.add; split <;> simp_all
        rw [e1, hcell, List.getElem?_map, List.getElem?_eq_getElem (by omega)]
        simp [List.getD, List.getElem?_eq_getElem (show j < bytes.length by omega)])
      rw [hcells]
      congr 1
      apply Array.ext'
      simp only [List.map_map]
      apply List.ext_getElem?
      intro i
      by_cases hi : i < n
      · simp [List.getElem?_map, List.getElem?_eq_getElem (show i < bytes.length by omega), hi, byteV, List.getD]
      · simp [List.getElem?_eq_none (show bytes.length ≤ i by omega), hi]

/-- the bytes ahead of the parts -/
def Pl.Fm.headL (f : Fm) : List UInt8 := f.op :: f.vars.map vb

theorem head_len (f : Fm) : f.headL.length ≤ 3 := by have := vars_le f; simp [Fm.headL]; omega

/-- the bytes up to part k, the parts' own texts given -/
def headT (f : Fm) (h : List UInt8) (g : Fm → List UInt8) (k : Nat) : List UInt8 := h ++ ((f.parts.take k).map g).flatten

theorem headT_zero (f : Fm) (h : List UInt8) (g : Fm → List UInt8) : headT f h g 0 = h := by simp [headT]
theorem headT_succ (f : Fm) (h : List UInt8) (g : Fm → List UInt8) (k : Nat) (hk : k < f.parts.length) : headT f h g (k + 1) = headT f h g k ++ g f.parts[k] := by
  unfold headT
  rw [List.take_succ_eq_append_getElem hk, List.map_append, List.flatten_append, List.append_assoc]
  simp only [List.map_cons, List.map_nil, List.flatten_cons, List.flatten_nil, List.append_nil]
theorem headT_all (f : Fm) (h : List UInt8) (g : Fm → List UInt8) (k : Nat) (hk : f.parts.length ≤ k) : headT f h g k = h ++ (f.parts.map g).flatten := by
  unfold headT; rw [List.take_of_length_le hk]
theorem headT_len (f : Fm) (h : List UInt8) (g : Fm → List UInt8) (k m n : Nat) (hh : h.length ≤ m) (hg : ∀ p ∈ f.parts, (g p).length ≤ n) : (headT f h g k).length ≤ m + 2 * n := by
  unfold headT
  rw [List.length_append]
  have h2 : ∀ ps : List Fm, (∀ p ∈ ps, (g p).length ≤ n) → ((ps.map g).flatten).length ≤ ps.length * n := by
    intro ps
    induction ps with
    | nil => intro _; simp
    | cons p ps ih =>
      intro hp
      have h1 := hp p (by simp)
      have h3 := ih (fun q hq => hp q (by simp [hq]))
      simp only [List.map_cons, List.flatten_cons, List.length_append, List.length_cons, Nat.add_mul, Nat.one_mul]
      omega
  have h3 := h2 (f.parts.take k) (fun p hp => hg p (List.mem_of_mem_take hp))
  have h4 : (f.parts.take k).length ≤ 2 := by have := parts_le f; simp; omega
  have h5 := Nat.mul_le_mul_right n h4
  omega

theorem vars_bytes (f : Fm) : (f.vars.map fun v => byteV (vb v)) = (f.vars.map vb).map byteV := by simp

theorem ownsRow_world {w w' : World} {base : Nat} {e : TypeId} {size : Nat} {v : Value} {n : Nat} {xs : List Value} (h : w.ownsRow base e size v n xs) (hb : Below w.heap.size w w') : w'.ownsRow base e size v n xs :=
  ownsRow_keep h fun g hg => ⟨hb.block g (ownsRow_lt h hg).2, (ownsRow_lt h hg).1⟩

/-- a new slice of one byte -/
theorem new_byte (w : World) (b : UInt8) : ((w.alloc (.cells #[.int .u8 b.toNat] 5)).drew).ownsRow 0 5 1 (.slice (some ⟨w.heap.size, 0, none⟩) 1 1) 1 ([b].map byteV) :=
  ⟨rfl, .inr ⟨w.heap.size, 1, _, rfl, Nat.zero_le _, heap_alloc_new w _, Nat.le_refl _, by unfold maxLen; omega, rfl, rfl⟩⟩

theorem TreeIn.world {S : Nat → Prop} {w w' : World} {f : Fm} {b : Nat} (h : TreeIn S w f b) (hb : Below w.heap.size w w') : TreeIn S w' f b := TreeIn.keep (fun g hs hg => ⟨hb.block g hg, hs⟩) f b h

theorem TreesIn.world {S : Nat → Prop} {w w' : World} {ps : List Fm} {ks : List Nat} (h : TreesIn S w ps ks) (hb : Below w.heap.size w w') : TreesIn S w' ps ks := h.keep fun g hs hg => ⟨hb.block g hg, hs⟩

end Go.Proofs.YtpaleogkgfclnaaGreatDoor

namespace Go.Proofs.YtpaleogkgfclnaaGreatDoor
open Go.RowKit
open Pl

/-- the operators that stay behind a negation -/
def keepB (b : UInt8) : Bool := ((b.toNat : Int) == 80) || ((b.toNat : Int) == 61) || ((b.toNat : Int) == 69) || ((b.toNat : Int) == 50) || ((b.toNat : Int) == 51) || ((b.toNat : Int) == 52)

/-- the operator that stands for another one behind a negation -/
def turnB (b : UInt8) : UInt8 := if b = 116 then 102 else if b = 102 then 116 else if b = 38 then 124 else if b = 124 then 38 else if b = 65 then 83 else if b = 83 then 65 else b

def pushL (o : Bool) (f : Fm) : List UInt8 := (f.push o).text

theorem push_neg (f : Fm) (h : f.op = 33) : ∃ p, f.parts = [p] ∧ ∀ o, pushL o f = pushL (!o) p := by
  cases f with
  | neg p => exact ⟨p, rfl, fun o => rfl⟩
  | qu k v p => cases k <;> simp [Fm.op, Qn.b] at h
  | _ => simp [Fm.op] at h

theorem push_keep (f : Fm) (h : keepB f.op = true) (o : Bool) : pushL o f = (if o then [33] else []) ++ (f.headL ++ (f.parts.map (pushL false)).flatten) := by
  cases f with
  | qu k v p => cases k <;> first | (simp [Fm.op, Qn.b, keepB] at h; done) | (cases o <;> simp [pushL, Fm.push, Fm.text, Fm.headL, Fm.op, Fm.vars, Fm.parts])
  | pr v => cases o <;> simp [pushL, Fm.push, Fm.text, Fm.headL, Fm.op, Fm.vars, Fm.parts]
  | eq v w => cases o <;> simp [pushL, Fm.push, Fm.text, Fm.headL, Fm.op, Fm.vars, Fm.parts]
  | rel v w => cases o <;> simp [pushL, Fm.push, Fm.text, Fm.headL, Fm.op, Fm.vars, Fm.parts]
  | _ => simp [Fm.op, keepB] at h

theorem push_turn (f : Fm) (h : keepB f.op = false) (h2 : f.op ≠ 33) (o : Bool) :
    pushL o f = ((if o then turnB f.op else f.op) :: f.vars.map vb) ++ (f.parts.map (pushL o)).flatten := by
  cases f with
  | qu k v p => cases k <;> first | (simp [Fm.op, Qn.b, keepB] at h; done) | (cases o <;> simp [pushL, Fm.push, Fm.text, Fm.op, Fm.vars, Fm.parts, turnB, Qn.b])
  | tru => cases o <;> simp [pushL, Fm.push, Fm.text, Fm.op, Fm.vars, Fm.parts, turnB]
  | fls => cases o <;> simp [pushL, Fm.push, Fm.text, Fm.op, Fm.vars, Fm.parts, turnB]
  | con p q => cases o <;> simp [pushL, Fm.push, Fm.text, Fm.op, Fm.vars, Fm.parts, turnB]
  | dis p q => cases o <;> simp [pushL, Fm.push, Fm.text, Fm.op, Fm.vars, Fm.parts, turnB]
  | neg p => exact absurd rfl h2
  | _ => simp [Fm.op, keepB] at h

theorem op_turn (f : Fm) (h : keepB f.op = false) (h2 : f.op ≠ 33) : f.op = 116 ∨ f.op = 102 ∨ f.op = 38 ∨ f.op = 124 ∨ f.op = 65 ∨ f.op = 83 := by
  cases f with
  | qu k v p => cases k <;> first | (simp [Fm.op, Qn.b, keepB] at h; done) | simp [Fm.op, Qn.b]
  | neg p => exact absurd rfl h2
  | tru => simp [Fm.op]
  | fls => simp [Fm.op]
  | con p q => simp [Fm.op]
  | dis p q => simp [Fm.op]
  | _ => simp [Fm.op, keepB] at h

theorem pushL_le (o : Bool) (f : Fm) : (pushL o f).length ≤ 2 * f.text.length := push_le f o

end Go.Proofs.YtpaleogkgfclnaaGreatDoor

namespace Go.Proofs.YtpaleogkgfclnaaGreatDoor
open Go.RowKit
open Pl
set_option linter.unusedSimpArgs false

theorem int_eq {k : IntKind} {a b : Int} (h : a = b) : Value.int k a = .int k b := by rw [h]

/-- a piece of a text -/
theorem piece {s : ByteArray} {k : Nat} {x r : List UInt8} (h : s.data.toList.drop k = x ++ r) (j : Nat) (hj : j = k + x.length) : (s.extract k j).data.toList = x := by
  subst hj
  rw [Lib.extract_data, h]
  simp

theorem piece_eq {s : ByteArray} {k : Nat} {x r : List UInt8} (h : s.data.toList.drop k = x ++ r) (j : Nat) (hj : j = k + x.length) : s.extract k j = bs x := eq_bs (piece h j hj)

theorem piece_size {s : ByteArray} {k : Nat} {x r : List UInt8} (h : s.data.toList.drop k = x ++ r) (j : Nat) (hj : j = k + x.length) : (s.extract k j).size = x.length := by
  rw [Lib.size_eq, piece h j hj]

end Go.Proofs.YtpaleogkgfclnaaGreatDoor

namespace Go.Proofs.YtpaleogkgfclnaaGreatDoor
open Go.RowKit
open Pl
set_option linter.unusedSimpArgs false

/-- the texts up to one, each behind the operator -/
def preL (c : UInt8) (zs : List ByteArray) (k : Nat) : List UInt8 := ((zs.take k).map fun z => c :: z.data.toList).flatten

theorem preL_zero (c : UInt8) (zs : List ByteArray) : preL c zs 0 = [] := by simp [preL]

theorem preL_succ (c : UInt8) {zs : List ByteArray} {k : Nat} (h : k < zs.length) : preL c zs (k + 1) = preL c zs k ++ c :: (zs.getD k ByteArray.empty).data.toList := by
  unfold preL
  have hg : zs.getD k ByteArray.empty = zs[k] := by simp [List.getD, h]
  rw [List.take_succ_eq_append_getElem h, List.map_append, List.flatten_append, hg]
  simp only [List.map_cons, List.map_nil, List.flatten_cons, List.flatten_nil, List.append_nil]

theorem preL_len (c : UInt8) (zs : List ByteArray) (hs : ∀ z ∈ zs, z.size ≤ 4000) (k : Nat) (hk : k ≤ zs.length) : (preL c zs k).length ≤ 4001 * k := by
  induction k with
  | zero => simp [preL]
  | succ k ih =>
    rw [preL_succ c (by omega)]
    have hg : zs.getD k ByteArray.empty = zs[k] := by simp [List.getD, show k < zs.length by omega]
    have h1 := hs zs[k] (List.getElem_mem _)
    rw [Lib.size_eq] at h1
    rw [hg]
    have := ih (by omega)
    simp only [List.length_append, List.length_cons]
    omega

/-- the texts joined -/
def joinL (c : UInt8) (zs : List ByteArray) : List UInt8 :=
  if zs.length = 0 then (if c = 38 then [116] else [102]) else preL c zs (zs.length - 1) ++ (zs.getD (zs.length - 1) ByteArray.empty).data.toList

theorem joined_calls (op : ByteArray) (c : UInt8) (g : Nat) {cp : Nat} (zs : List ByteArray) (w : World) (hop : op.data.toList = [c]) (hc : (c = 38 ∧ op = ⟨#[38]⟩) ∨ (c = 124 ∧ op = ⟨#[124]⟩)) (hn : zs.length ≤ 1048576) (hs : ∀ z ∈ zs, z.size ≤ 4000)
    (hv : SRow w (.slice (some ⟨g, 0, none⟩) zs.length cp) zs) :
    Calls Tryz.prog 57 #[.string op, .slice (some ⟨g, 0, none⟩) zs.length cp] w fun e w' => e = .returned (.string (bs (joinL c zs))) ∧ w = w' := by
  rcases hv with ⟨h, _⟩ | ⟨a, cap, e1, hcp, _, hcell, _⟩
  · simp at h
  simp only [Value.slice.injEq, Option.some.injEq] at e1
  obtain ⟨rfl, _, rfl⟩ := e1
  simp only [add_zero_at] at hcell
  have Hcell := Lib.hid hcell
  have Hs := Lib.hid hs
  clear hcell hs
  by_cases h0 : zs.length = 0
  · have hj : joinL c zs = if c = 38 then [116] else [102] := by unfold joinL; rw [if_pos h0]
    rw [hj, h0]
    rcases hc with ⟨rfl, rfl⟩ | ⟨rfl, rfl⟩
    · clear hj
      go_enter Tryz.func57, Tryz.ntmps57
      go_wp2_with fail
      go_ret
      exact ⟨rfl, rfl⟩
    · clear hj
      go_enter Tryz.func57, Tryz.ntmps57
      go_wp2_with fail
      go_ret
      exact ⟨rfl, rfl⟩
  · have hj : joinL c zs = preL c zs (zs.length - 1) ++ (zs.getD (zs.length - 1) ByteArray.empty).data.toList := by unfold joinL; rw [if_neg h0]
    have Hj := Lib.hid hj
    have hos : op.size = 1 := by rw [Lib.size_eq, hop]; rfl
    have Hop := Lib.hid hop
    clear hj hop hc
    have hlz := Hcell.out (zs.length - 1) (by omega)
    have hlz2 : (zs.getD (zs.length - 1) ByteArray.empty).size ≤ 4000 := by
      have hg : zs.getD (zs.length - 1) ByteArray.empty = zs[zs.length - 1] := by simp [List.getD, show zs.length - 1 < zs.length by omega]
      rw [hg]; exact Hs.out _ (List.getElem_mem _)
    obtain ⟨z, hz⟩ : ∃ z, z = zs.getD (zs.length - 1) ByteArray.empty := ⟨_, rfl⟩
    rw [← hz] at hlz hlz2
    have Hz := Lib.hid hz
    clear hz
    obtain ⟨n, hnn⟩ : ∃ n, zs.length = n + 1 := ⟨zs.length - 1, by omega⟩
    have hn1 : zs.length - 1 = n := by omega
    rw [hn1] at hlz
    rw [hnn] at hcp ⊢
    have Hn := Lib.hid hnn
    have hn2 : n < 1048576 := by omega
    clear hnn hn1 hn h0
    go_enter Tryz.func57, Tryz.ntmps57
    go_wp2_with fail
    go_loop [5, 19] (fun o i => ∃ k : Nat, k ≤ n ∧ i = .int .i64 k ∧ o = .string (bs (preL c zs k))) (fun _ i => n - (intOf i).toNat)
    case atStart => exact ⟨0, by omega, rfl, by rw [preL_zero]; rfl⟩
    case round =>
      obtain ⟨k, hk, rfl, rfl⟩ := hrel
      have hpl : (bs (preL c zs k)).size ≤ 4001 * k := by rw [bs_size]; exact preL_len c zs Hs.out k (by have := Hn.out; omega)
      by_cases hlt : k < n
      · have hcl := Hcell.out k (by have := Hn.out; omega)
        have hy2 : (zs.getD k ByteArray.empty).size ≤ 4000 := by
          have hkk : k < zs.length := by have := Hn.out; omega
          have hg : zs.getD k ByteArray.empty = zs[k] := by simp [List.getD, hkk]
          rw [hg]; exact Hs.out _ (List.getElem_mem _)
        have hsu := preL_succ c (zs := zs) (k := k) (by have := Hn.out; omega)
        generalize zs.getD k ByteArray.empty = y at hcl hy2 hsu
        have Hsu := Lib.hid hsu
        clear hsu
        go_wp2_with fail
        go_round
        case rel => exact ⟨k + 1, by omega, by go_num, str_eq (eq_bs (by simp [bs_data, Hsu.out, Hop.out]))⟩
        case measure => simp [intOf]; omega
      · obtain rfl : k = n := by omega
        go_wp2_with fail
        go_ret
        refine ⟨congrArg (fun x => Ending.returned (.string x)) (eq_bs ?_), rfl⟩
        rw [Hj.out, ← Hz.out, Hn.out]
        simp [bs_data]

theorem l2Join_calls (op : ByteArray) (c : UInt8) (g : Nat) {cp : Nat} (zs : List ByteArray) (w : World) (hop : op.data.toList = [c]) (hc : (c = 38 ∧ op = ⟨#[38]⟩) ∨ (c = 124 ∧ op = ⟨#[124]⟩)) (hn : zs.length ≤ 1048576) (hs : ∀ z ∈ zs, z.size ≤ 4000)
    (hv : SRow w (.slice (some ⟨g, 0, none⟩) zs.length cp) zs) :
    Calls Tryz.prog 60 #[.string op, .slice (some ⟨g, 0, none⟩) zs.length cp] w fun e w' => e = .returned (.string (bs (joinL c zs))) ∧ Below w.heap.size w w' := by
  rcases hv with ⟨h, _⟩ | ⟨a, cap, e1, hcp, _, hcell, _⟩
  · simp at h
  simp only [Value.slice.injEq, Option.some.injEq] at e1
  obtain ⟨rfl, _, rfl⟩ := e1
  simp only [add_zero_at] at hcell
  have Hcell := Lib.hid hcell
  have Hs := Lib.hid hs
  clear hcell hs
  by_cases h0 : zs.length = 0
  · have hj : joinL c zs = if c = 38 then [116] else [102] := by unfold joinL; rw [if_pos h0]
    rw [hj, h0]
    have hf1 : ∀ w, Calls Tryz.prog 82 #[.string ⟨#[38, 124]⟩, .int .u8 38] w fun e w' => e = .returned (.int .i64 0) ∧ w' = w := fun w => (l15Find_calls ⟨#[38, 124]⟩ 38 w (by decide)).mono (by rintro e w' ⟨rfl, rfl⟩; exact ⟨rfl, rfl⟩)
    have hf2 : ∀ w, Calls Tryz.prog 82 #[.string ⟨#[38, 124]⟩, .int .u8 124] w fun e w' => e = .returned (.int .i64 1) ∧ w' = w := fun w => (l15Find_calls ⟨#[38, 124]⟩ 124 w (by decide)).mono (by rintro e w' ⟨rfl, rfl⟩; exact ⟨rfl, rfl⟩)
    have Hf1 := Lib.hid hf1
    have Hf2 := Lib.hid hf2
    clear hf1 hf2
    rcases hc with ⟨rfl, rfl⟩ | ⟨rfl, rfl⟩
    · clear hj
      go_enter Tryz.func60, Tryz.ntmps60
      go_upto_region 2 with (fail)
      go_quiet ((go_at_call 82; exact Calls.quiet_of_same (Hf1.out _)))
      go_wp2_with fail
      go_ret
      exact ⟨rfl, below_drewN (Below.refl _ _) _⟩
    · clear hj
      go_enter Tryz.func60, Tryz.ntmps60
      go_upto_region 2 with (fail)
      go_quiet ((go_at_call 82; exact Calls.quiet_of_same (Hf2.out _)))
      go_wp2_with fail
      go_ret
      exact ⟨rfl, below_drewN (Below.refl _ _) _⟩
  · have hj : joinL c zs = preL c zs (zs.length - 1) ++ (zs.getD (zs.length - 1) ByteArray.empty).data.toList := by unfold joinL; rw [if_neg h0]
    have Hj := Lib.hid hj
    have hos : op.size = 1 := by rw [Lib.size_eq, hop]; rfl
    have Hop := Lib.hid hop
    clear hj hop hc
    obtain ⟨J, hJ⟩ : ∃ J, J = joinL c zs := ⟨_, rfl⟩
    rw [← hJ]
    have HJ := Lib.hid hJ
    clear hJ
    go_enter Tryz.func60, Tryz.ntmps60
    go_wp2_with fail
    go_loop [5, 6] (fun o i => ∃ k : Nat, k ≤ zs.length ∧ i = .int .i64 k ∧ ((k < zs.length ∧ o = .string (bs (preL c zs k))) ∨ (k = zs.length ∧ o = .string (bs J)))) (fun _ i => zs.length - (intOf i).toNat)
    case atStart => exact ⟨0, by omega, rfl, .inl ⟨by omega, by rw [preL_zero]; rfl⟩⟩
    case round =>
      obtain ⟨k, hk, rfl, ⟨hlt, rfl⟩ | ⟨rfl, rfl⟩⟩ := hrel
      · have hpl : (bs (preL c zs k)).size ≤ 4001 * k := by rw [bs_size]; exact preL_len c zs Hs.out k (by omega)
        have hcl := Hcell.out k hlt
        have hy2 : (zs.getD k ByteArray.empty).size ≤ 4000 := by
          have hg : zs.getD k ByteArray.empty = zs[k] := by simp [List.getD, hlt]
          rw [hg]; exact Hs.out _ (List.getElem_mem _)
        have hsu := preL_succ c (zs := zs) (k := k) hlt
        by_cases hk1 : k + 1 < zs.length
        · generalize zs.getD k ByteArray.empty = y at hcl hy2 hsu
          have Hsu := Lib.hid hsu
          clear hsu
          go_wp2_with fail
          go_round
          case rel => exact ⟨k + 1, by omega, by go_num, .inl ⟨hk1, str_eq (eq_bs (by simp [bs_data, Hsu.out, Hop.out]))⟩⟩
          case measure => simp [intOf]; omega
        · have hkz : zs.length - 1 = k := by omega
          have hJ2 : J = preL c zs k ++ (zs.getD k ByteArray.empty).data.toList := by rw [HJ.out, Hj.out, hkz]
          clear hsu
          generalize zs.getD k ByteArray.empty = y at hcl hy2 hJ2
          have HJ2 := Lib.hid hJ2
          clear hJ2
          go_wp2_with fail
          go_round
          case rel => exact ⟨k + 1, by omega, by go_num, .inr ⟨by omega, str_eq (eq_bs (by simp [bs_data, HJ2.out]))⟩⟩
          case measure => simp [intOf]; omega
      · go_wp2_with fail
        go_ret
        exact ⟨rfl, Below.refl _ _⟩

end Go.Proofs.YtpaleogkgfclnaaGreatDoor

namespace Go.Proofs.YtpaleogkgfclnaaGreatDoor
open Go.RowKit
open Pl

theorem shortFormula_no (s : ByteArray) (ok : Bool) (w : World) (h : ok = true → 4000 < s.size) :
    Calls Tryz.prog 29 #[.string s, .bool ok] w fun e w' => e = .returned (.tuple #[.string ⟨#[]⟩, .bool false]) ∧ w = w' := by
  cases ok with
  | false =>
    clear h
    go_enter Tryz.func29, Tryz.ntmps29
    go_wp2_with fail
    go_ret2
    exact ⟨rfl, rfl⟩
  | true =>
    have h2 := h rfl
    clear h
    go_enter Tryz.func29, Tryz.ntmps29
    go_wp2_with fail
    go_ret2
    exact ⟨rfl, rfl⟩

theorem shortFormula_yes (s : ByteArray) (w : World) (h : s.size ≤ 4000) :
    Calls Tryz.prog 29 #[.string s, .bool true] w fun e w' => e = .returned (.tuple #[.string s, .bool true]) ∧ w = w' := by
  go_enter Tryz.func29, Tryz.ntmps29
  go_wp2_with fail
  go_ret2
  exact ⟨rfl, rfl⟩

open Classical in
/-- what NotFormula returns -/
noncomputable def notV (l : List UInt8) : Value := if IsFm l ∧ l.length < 4000 then .tuple #[.string (bs (33 :: l)), .bool true] else .tuple #[.string ⟨#[]⟩, .bool false]

theorem notV_form (l : List UInt8) : ∃ (t : ByteArray) (b : Bool), notV l = .tuple #[.string t, .bool b] := by
  unfold notV
  split
  · exact ⟨_, _, rfl⟩
  · exact ⟨_, _, rfl⟩

end Go.Proofs.YtpaleogkgfclnaaGreatDoor

namespace Go.Proofs.YtpaleogkgfclnaaGreatDoor
open Go.RowKit
open Pl
set_option linter.unusedSimpArgs false

open Classical in
/-- formulas joined by an operator, and whether there is such a text -/
noncomputable def joinV (op : ByteArray) (zs : List ByteArray) : ByteArray × Bool :=
  if (op = ⟨#[38]⟩ ∨ op = ⟨#[124]⟩) ∧ (∀ z ∈ zs, IsFm z.data.toList) ∧ (joinL (op.data.toList.headD 0) zs).length ≤ 4000 then (bs (joinL (op.data.toList.headD 0) zs), true) else (bs [], false)

theorem joinV_no {op : ByteArray} {zs : List ByteArray} (h : ¬ ((op = ⟨#[38]⟩ ∨ op = ⟨#[124]⟩) ∧ (∀ z ∈ zs, IsFm z.data.toList) ∧ (joinL (op.data.toList.headD 0) zs).length ≤ 4000)) : joinV op zs = (bs [], false) := if_neg h
theorem joinV_yes {op : ByteArray} {zs : List ByteArray} (h : (op = ⟨#[38]⟩ ∨ op = ⟨#[124]⟩) ∧ (∀ z ∈ zs, IsFm z.data.toList) ∧ (joinL (op.data.toList.headD 0) zs).length ≤ 4000) : joinV op zs = (bs (joinL (op.data.toList.headD 0) zs), true) := if_pos h


end Go.Proofs.YtpaleogkgfclnaaGreatDoor

namespace Go.Proofs.YtpaleogkgfclnaaGreatDoor
open Go.ChangeMaps
set_option linter.unusedSimpArgs false
set_option linter.unusedVariables false

/-- keys of which it can be told whether they are the same -/
structure MKey (P : Program) (w : World) (k : TypeId) (S : Value → Prop) : Prop where
  check : ∀ (em : Bool) {v : Value}, S v → (Instr.checkKey em 10000 k v).run P w = .ok () w
  find : ∀ {x : Value}, S x → ∀ es : List MapEntry, (∀ e ∈ es, S e.key) →
    ((Instr.findKey k x es).run P w = .ok none w ∧ ∀ e ∈ es, e.key ≠ x) ∨ ∃ j e, (Instr.findKey k x es).run P w = .ok (some (j, e.val)) w ∧ es[j]? = some e ∧ e.key = x
  stays : ∀ {v : Value}, S v → (Instr.keyThatStays v v).run P w = .ok v w

/-- numbers as keys -/
def IKey (v : Value) : Prop := ∃ n : Nat, v = .int .i64 (n : Nat) ∧ n < 4096
/-- addresses of blocks as keys -/
def PKey (w : World) (v : Value) : Prop := ∃ b c t, v = .pointer (some ⟨b, 0, none⟩) ∧ w.heap[b]? = some (.cells c t (0, 0))

theorem ikey {P : Program} {w : World} {k : TypeId} (hk : P.underlying k = some (.int .i64)) : MKey P w k IKey := by
  have K := Maps.int_keyed hk
  have key : ∀ {v}, IKey v → ∃ l, keyOf P k v = some l := fun {v} ⟨n, hv, hn⟩ => by
    refine ⟨_, hv ▸ Maps.keyOf_int_mk hk (a := (n : Int)) ?_⟩
    simp [Lit.wf, IntKind.min, IntKind.max, IntKind.signed, IntKind.bits]
    omega
  exact ⟨fun em v h => by obtain ⟨l, hl⟩ := key h; exact K.check w em hl, fun {x} h es hes => by
    obtain ⟨l, hl⟩ := key h
    exact K.find w hl es fun e he => key (hes e he), fun {v} h => by obtain ⟨l, hl⟩ := key h; exact K.stays w hl⟩

theorem eq_ptr {P : Program} {w : World} {k e : TypeId} {j : TypeInfo} (hk : P.underlying k = some (.pointer e)) (he : P.info? e = some j) (hsz : j.size ≠ 0) {x y : Value} (hx : PKey w x) (hy : PKey w y) :
    ∃ r : Bool, (Op.equal k x y).run P w = .ok r w ∧ (r = true ↔ x = y) := by
  obtain ⟨a, ca, ta, rfl, ha⟩ := hx
  obtain ⟨b, cb, tb, rfl, hb⟩ := hy
  by_cases hab : a = b
  · subst hab
    refine ⟨true, ?_, by simp⟩
    have h : ∀ d : Nat, (Op.equalIn (d + 1) k (.pointer (some ⟨a, 0, none⟩)) (.pointer (some ⟨a, 0, none⟩))).run P w = .ok true w := fun d => by
      simp [Op.equalIn, run_underlying hk, sizeOf, typeInfo, he, run_sameAddr_same]
    simp only [Op.equal, Op.maxDepth]
    exact h 9999
  · refine ⟨false, ?_, by simp [hab]⟩
    have h := run_sameAddr_other (P := P) w (a := ⟨a, 0, none⟩) (b := ⟨b, 0, none⟩) (by simp [hab]) ha hb
    have h2 : ∀ d : Nat, (Op.equalIn (d + 1) k (.pointer (some ⟨a, 0, none⟩)) (.pointer (some ⟨b, 0, none⟩))).run P w = .ok false w := fun d => by
      simp [Op.equalIn, run_underlying hk, sizeOf, typeInfo, he, hsz, h]
    simp only [Op.equal, Op.maxDepth]
    exact h2 9999

theorem find_ptr {P : Program} {w : World} {k e : TypeId} {j : TypeInfo} (hk : P.underlying k = some (.pointer e)) (he : P.info? e = some j) (hsz : j.size ≠ 0) {x : Value} (hx : PKey w x) : ∀ (es : List MapEntry) (i : Nat), (∀ e ∈ es, PKey w e.key) →
    ((Instr.findAsking k x es i).run P w = .ok none w ∧ ∀ e ∈ es, e.key ≠ x) ∨ ∃ j e, (Instr.findAsking k x es i).run P w = .ok (some (i + j, e.val)) w ∧ es[j]? = some e ∧ e.key = x
  | [], i, _ => .inl ⟨by simp [Instr.findAsking], by simp⟩
  | y :: es, i, hall => by
    obtain ⟨r, hr, hiff⟩ := eq_ptr hk he hsz hx (hall y (by simp))
    cases r with
    | false =>
      have hne : y.key ≠ x := fun h => by have := hiff.2 h.symm; cases this
      rcases find_ptr hk he hsz hx es (i + 1) (fun z hz => hall z (by simp [hz])) with ⟨h1, h2⟩ | ⟨j, e', h1, h2, h3⟩
      · refine .inl ⟨by simp [Instr.findAsking, hr, h1], fun z hz => ?_⟩
        rcases List.mem_cons.1 hz with rfl | hz
        · exact hne
        · exact h2 z hz
      · exact .inr ⟨j + 1, e', by simp [Instr.findAsking, hr, h1, Nat.add_assoc, Nat.add_comm 1 j], by simpa using h2, h3⟩
    | true => exact .inr ⟨0, y, by simp [Instr.findAsking, hr], rfl, (hiff.1 rfl).symm⟩

theorem findNow_ptr {d : TypeId} {x : Value} : ∀ (es : List MapEntry) (i : Nat), Instr.findNow (.pointer d) x es i = if es = [] then some none else none
  | [], i => rfl
  | y :: es, i => by simp [Instr.findNow, Instr.sameNow]

theorem pkey {P : Program} {w : World} {k e : TypeId} {j : TypeInfo} (hk : P.underlying k = some (.pointer e)) (he : P.info? e = some j) (hsz : j.size ≠ 0) : MKey P w k (PKey w) := by
  refine ⟨fun em v ⟨b, c, t, hv, _⟩ => ?_, fun {x} hx es hes => ?_, fun {v} ⟨b, c, t, hv, _⟩ => ?_⟩
  · subst hv
    have h : ∀ n : Nat, (Instr.checkKey em (n + 1) k (.pointer (some ⟨b, 0, none⟩))).run P w = .ok () w := fun n => by
      simp [Instr.checkKey, run_underlying hk]
    exact h 9999
  · cases es with
    | nil => exact .inl ⟨by simp [Instr.findKey, run_underlying hk, findNow_ptr], by simp⟩
    | cons y es =>
      have hf : (Instr.findKey k x (y :: es)).run P w = (Instr.findAsking k x (y :: es)).run P w := by simp [Instr.findKey, run_underlying hk, findNow_ptr]
      rw [hf]
      rcases find_ptr hk he hsz hx (y :: es) 0 hes with h | ⟨j, e', h1, h2, h3⟩
      · exact .inl h
      · exact .inr ⟨j, e', by simpa using h1, h2, h3⟩
  · subst hv
    have h : ∀ n : Nat, Instr.sameBits (n + 1) (.pointer (some ⟨b, 0, none⟩)) (.pointer (some ⟨b, 0, none⟩)) = true := fun n => by
      simp [Instr.sameBits]
    simp only [Instr.keyThatStays, h 9999]
    simp

section
variable {P : Program} {w : World} {k t e : TypeId} {S : Value → Prop} {b : Nat} {es : Array MapEntry} {clock : Nat} {key : Value}

theorem mlook (c : Bool) (K : MKey P w k S) (ht : P.underlying t = some (.map k e)) {z : Value} (hz : (zeroValue e).run P w = .ok z w) (hb : w.heap[b]? = some (.map es clock)) (hS : ∀ x ∈ es.toList, S x.key) (hkey : S key) :
    ((Instr.lookup t (.map (some b)) key c).run P w = .ok (if c then .tuple #[z, .bool false] else z) w ∧ ∀ x ∈ es.toList, x.key ≠ key) ∨
    ∃ e0, e0 ∈ es.toList ∧ e0.key = key ∧ (Instr.lookup t (.map (some b)) key c).run P w = .ok (if c then .tuple #[e0.val, .bool true] else e0.val) w := by
  rcases K.find hkey es.toList hS with ⟨h1, h2⟩ | ⟨j, e0, h1, h2, h3⟩
  · exact .inl ⟨by simp [Instr.lookup, run_underlying ht, MapKept.run_getObj_map hb, K.check _ hkey, h1, hz, Result.andThen], h2⟩
  · exact .inr ⟨e0, List.mem_of_getElem? h2, h3, by simp [Instr.lookup, run_underlying ht, MapKept.run_getObj_map hb, K.check _ hkey, h1, Result.andThen]⟩

theorem mlook_nil (c : Bool) (K : MKey P w k S) (ht : P.underlying t = some (.map k e)) {z : Value} (hz : (zeroValue e).run P w = .ok z w) (hkey : S key) :
    (Instr.lookup t (.map none) key c).run P w = .ok (if c then .tuple #[z, .bool false] else z) w := by
  rcases K.find hkey [] (by simp) with ⟨h1, h2⟩ | ⟨j, e0, h1, h2, h3⟩
  · simp [Instr.lookup, run_underlying ht, K.check _ hkey, h1, hz, Result.andThen]
  · simp at h2

theorem mput (K : MKey P w k S) (ht : P.underlying t = some (.map k e)) (hb : w.heap[b]? = some (.map es clock)) (hS : ∀ x ∈ es.toList, S x.key) (hkey : S key) (val : Value) :
    ∃ es' clock', (Instr.mapUpdate t (.map (some b)) key val).run P w = .ok () (setBlock w b (.map es' clock')) ∧ (∀ x ∈ es'.toList, (x ∈ es.toList ∧ (x.key ≠ key ∨ ∃ y ∈ es'.toList, y.key = key ∧ y.val = val)) ∨ (x.key = key ∧ x.val = val)) ∧ ∃ x ∈ es'.toList, x.key = key ∧ x.val = val := by
  rcases K.find hkey es.toList hS with ⟨h1, h2⟩ | ⟨j, e0, h1, h2, h3⟩
  · refine ⟨es.push ⟨key, val, clock⟩, clock + 1, ?_, ?_, ⟨⟨key, val, clock⟩, by simp, rfl, rfl⟩⟩
    · simp [Instr.mapUpdate, run_underlying ht, MapKept.run_getObj_map hb, K.check false hkey, h1, MapKept.run_setObj_map _ hb, Result.andThen, setBlock]
    · intro x hx
      simp only [Array.toList_push, List.mem_append, List.mem_singleton] at hx
      rcases hx with hx | rfl
      · exact .inl ⟨hx, .inl (h2 x hx)⟩
      · exact .inr ⟨rfl, rfl⟩
  · have hj : es[j]? = some e0 := by simpa using h2
    have hkey2 : (((es[j]?).map (·.key)).getD key) = key := by rw [hj]; exact h3
    have hst := K.stays (v := key) hkey
    have hlt : j < es.size := (Array.getElem?_eq_some_iff.1 hj).1
    have hnew : ({ e0 with key := key, val := val } : MapEntry) ∈ (es.modify j fun x => { x with key, val := val }).toList := by
      have h : (es.modify j fun x => { x with key, val := val })[j]? = some { e0 with key := key, val := val } := by
        simp [Array.getElem?_modify, hj]
      exact Array.mem_toList_iff.2 (Array.mem_of_getElem? h)
    refine ⟨es.modify j fun x => { x with key, val := val }, clock, ?_, ?_, ⟨_, hnew, rfl, rfl⟩⟩
    · simp [Instr.mapUpdate, run_underlying ht, MapKept.run_getObj_map hb, K.check false hkey, h1, MapKept.run_setObj_map _ hb, Result.andThen, setBlock, hj, h3, hst]
    · intro x hx
      obtain ⟨i, hi, rfl⟩ := List.getElem_of_mem hx
      simp only [Array.getElem_toList, Array.getElem_modify]
      split
      · exact .inr ⟨rfl, rfl⟩
      · exact .inl ⟨by simp, .inr ⟨_, hnew, rfl, rfl⟩⟩

end

end Go.Proofs.YtpaleogkgfclnaaGreatDoor

namespace Go.Proofs.YtpaleogkgfclnaaGreatDoor
open Go.RowKit
open Pl
set_option linter.unusedSimpArgs false
set_option linter.unusedVariables false

/-- the elements of the first free variables as octal digits -/
def keyTo (fr : Nat) (e : Nat → Nat) : Nat → Nat
  | 0 => 0
  | k + 1 => if fr.testBit k then keyTo fr e k ||| (e k * 8 ^ k) else keyTo fr e k

theorem or_add {a x k : Nat} (h : a < 8 ^ k) : a ||| (x * 8 ^ k) = a + x * 8 ^ k := by
  have e : (8 : Nat) ^ k = 2 ^ (3 * k) := by rw [Nat.pow_mul]
  rw [e] at h ⊢
  have := Nat.shiftLeft_add_eq_or_of_lt h x
  rw [Nat.shiftLeft_eq] at this
  rw [Nat.or_comm, ← this, Nat.add_comm]

theorem keyTo_lt {fr : Nat} {e : Nat → Nat} (he : ∀ i, e i < 8) : ∀ k, keyTo fr e k < 8 ^ k
  | 0 => by simp [keyTo]
  | k + 1 => by
    have h := keyTo_lt (fr := fr) he k
    have hx := he k
    have hp : (8 : Nat) ^ (k + 1) = 8 * 8 ^ k := by rw [Nat.pow_succ, Nat.mul_comm]
    have hm : e k * 8 ^ k ≤ 7 * 8 ^ k := Nat.mul_le_mul_right _ (by omega)
    unfold keyTo
    split
    · rw [or_add h]; omega
    · omega

theorem keyTo_inj {fr : Nat} {e e' : Nat → Nat} (he : ∀ i, e i < 8) (he' : ∀ i, e' i < 8) : ∀ k, keyTo fr e k = keyTo fr e' k → ∀ i, i < k → fr.testBit i = true → e i = e' i
  | 0, _, i, hi, _ => absurd hi (Nat.not_lt_zero _)
  | k + 1, h, i, hi, hb => by
    have h1 := keyTo_lt (fr := fr) he k
    have h2 := keyTo_lt (fr := fr) he' k
    unfold keyTo at h
    cases hk : fr.testBit k with
    | false =>
      rw [hk] at h
      simp only [Bool.false_eq_true, if_false] at h
      have : i ≠ k := fun e => by rw [e, hk] at hb; cases hb
      exact keyTo_inj he he' k h i (by omega) hb
    | true =>
      rw [hk] at h
      simp only [if_true] at h
      rw [or_add h1, or_add h2] at h
      have hd1 : (keyTo fr e k + e k * 8 ^ k) / 8 ^ k = e k := by
        rw [Nat.add_mul_div_right _ _ (Nat.pow_pos (by decide)), Nat.div_eq_of_lt h1, Nat.zero_add]
      have hd2 : (keyTo fr e' k + e' k * 8 ^ k) / 8 ^ k = e' k := by
        rw [Nat.add_mul_div_right _ _ (Nat.pow_pos (by decide)), Nat.div_eq_of_lt h2, Nat.zero_add]
      have hk2 : e k = e' k := by rw [← hd1, ← hd2, h]
      by_cases hik : i = k
      · subst hik; exact hk2
      · refine keyTo_inj he he' k ?_ i (by omega) hb
        rw [hk2] at h
        omega

/-- an environment as a function of numbers -/
def eN (e : Env) (i : Nat) : Nat := if h : i < 4 then e ⟨i, h⟩ else 0
theorem eN_lt {e : Env} (he : ∀ v, e v < 8) (i : Nat) : eN e i < 8 := by
  unfold eN
  split
  · exact he _
  · omega
theorem eN_fin (e : Env) (v : Fin 4) : eN e v.val = e v := by simp [eN]
/-- the number under which truth is kept -/
def keyN (fr : Nat) (e : Env) : Nat := keyTo fr (eN e) 4
theorem keyN_lt {fr : Nat} {e : Env} (he : ∀ v, e v < 8) : keyN fr e < 4096 := keyTo_lt (eN_lt he) 4
theorem keyN_holds (a : St) (f : Fm) {e e' : Env} (he : ∀ v, e v < 8) (he' : ∀ v, e' v < 8) (h : keyN f.freeBits e = keyN f.freeBits e') : f.holds a e = f.holds a e' :=
  holds_free a f e e' fun v hv => by
    have := keyTo_inj (eN_lt he) (eN_lt he') 4 h v.val v.isLt hv
    rwa [eN_fin, eN_fin] at this

/-! ### one tree at most -/

theorem own_same {W : World} {base base' n n' : Nat} {e : TypeId} {v : Value} {xs xs' : List Value} (h : W.ownsRow base e 1 v n xs) (h' : W.ownsRow base' e 1 v n' xs') : xs = xs' := by
  obtain ⟨hl, h2⟩ := h
  obtain ⟨hl', h2'⟩ := h'
  rcases h2 with ⟨rfl, h0⟩ | ⟨g, cap, cur, rfl, _, hh, _, _, _, ht⟩
  · rcases h2' with ⟨_, h0'⟩ | ⟨g, cap, cur, hv, _⟩
    · have e1 : xs = [] := List.length_eq_zero_iff.1 (by rw [hl, h0])
      have e2 : xs' = [] := List.length_eq_zero_iff.1 (by rw [hl', h0'])
      rw [e1, e2]
    · cases hv
  · rcases h2' with ⟨hv, _⟩ | ⟨g', cap', cur', hv, _, hh', _, _, _, ht'⟩
    · cases hv
    · simp only [Value.slice.injEq, Option.some.injEq, Addr.mk.injEq] at hv
      obtain ⟨⟨rfl, _⟩, hn, _⟩ := hv
      rw [hh] at hh'
      simp only [Option.some.injEq, Obj.cells.injEq] at hh'
      obtain ⟨rfl, _⟩ := hh'
      rw [hn, ht'] at ht
      exact ht.symm

theorem vb_inj {v w : Fin 4} (h : byteV (vb v) = byteV (vb w)) : v = w := by
  unfold byteV at h
  injection h with _ h
  revert v w
  decide

theorem node_same {S S' : Nat → Prop} {w : World} {op op' : UInt8} {vars vars' : List (Fin 4)} {fr fr' al al' b : Nat} {ks ks' : List Nat} (h : NodeIn S w op vars fr al b ks) (h' : NodeIn S' w op' vars' fr' al' b ks') : op = op' ∧ vars = vars' ∧ ks = ks' := by
  obtain ⟨_, vs, ps, hh, hv, _, hp, _⟩ := h
  obtain ⟨_, vs', ps', hh', hv', _, hp', _⟩ := h'
  rw [hh] at hh'
  simp only [Option.some.injEq, Obj.cells.injEq, Array.mk.injEq, List.cons.injEq, Value.int.injEq, true_and, and_true] at hh'
  obtain ⟨h1, rfl, rfl, _⟩ := hh'
  refine ⟨UInt8.toNat_inj.1 (by omega), ?_, ?_⟩
  · exact (List.map_inj_right (fun a b hab => vb_inj hab)).1 (own_same hv hv')
  · exact (List.map_inj_right (fun a b hab => by injection hab with e; injection e with e; injection e)).1 (own_same hp hp')

theorem qb_inj {k l : Qn} (h : k.b = l.b) : k = l := by
  cases k <;> cases l <;> first | rfl | exact absurd h (by decide)
theorem qb_out (k : Qn) : k.b ≠ 116 ∧ k.b ≠ 102 ∧ k.b ≠ 80 ∧ k.b ≠ 61 ∧ k.b ≠ 69 ∧ k.b ≠ 33 ∧ k.b ≠ 38 ∧ k.b ≠ 124 := by
  cases k <;> decide
theorem fm_same {f g : Fm} (h1 : f.op = g.op) (h2 : f.vars = g.vars) (h3 : f.parts = g.parts) : f = g := by
  cases f <;> cases g <;> simp only [Fm.op] at h1 <;> first
    | exact absurd h1 (by decide)
    | (rename_i k _ _; have q := qb_out k; simp_all; done)
    | (rename_i k _ _ _; have q := qb_out k; simp_all; done)
    | (rename_i k _ _ _ _; have q := qb_out k; simp_all; done)
    | (rename_i k _ _; have q := qb_out k; obtain ⟨q1, q2, q3, q4, q5, q6, q7, q8⟩ := q; first | exact absurd h1 q1 | exact absurd h1.symm q1 | exact absurd h1 q2 | exact absurd h1.symm q2 | exact absurd h1 q3 | exact absurd h1 q4 | exact absurd h1 q5 | exact absurd h1 q6 | exact absurd h1 q7 | exact absurd h1 q8)
    | (simp_all [Fm.vars, Fm.parts]; done)
    | (obtain rfl := qb_inj h1; simp_all [Fm.vars, Fm.parts]; done)

theorem part_size {f p : Fm} (h : p ∈ f.parts) : p.size < f.size := by
  cases f <;> simp [Fm.parts] at h <;> (try rcases h with rfl | rfl) <;> (try subst h) <;> simp [Fm.size] <;> omega

theorem tree_same {S S' : Nat → Prop} {w : World} : ∀ (n : Nat) (f g : Fm) (b : Nat), f.size ≤ n → TreeIn S w f b → TreeIn S' w g b → f = g
  | 0, f, g, b, hn, _, _ => by cases f <;> simp [Fm.size] at hn
  | n + 1, f, g, b, hn, h, h' => by
    obtain ⟨ks, hf, hl, ht⟩ := h.open
    obtain ⟨ks', hg, hl', ht'⟩ := h'.open
    obtain ⟨h1, h2, rfl⟩ := node_same hf hg
    refine fm_same h1 h2 (List.ext_getElem (by omega) fun i hi hi' => ?_)
    have hk : i < ks.length := by omega
    exact tree_same n _ _ ks[i] (by have := part_size (List.getElem_mem hi); omega) (ht i _ _ (List.getElem?_eq_getElem hi) (List.getElem?_eq_getElem hk)) (ht' i _ _ (List.getElem?_eq_getElem hi') (List.getElem?_eq_getElem hk))

/-- what is kept at a number is right for whatever tree lies there -/
def Good (lo : Nat) (w0 : World) (a : St) (nb k : Nat) (v : Bool) : Prop := ∀ f, TreeAt lo w0 f nb → ∀ e : Env, (∀ u, e u < 8) → keyN f.freeBits e = k → f.holds a e = v
theorem good_new {lo : Nat} {w0 : World} (a : St) {f : Fm} {nb : Nat} (h : TreeAt lo w0 f nb) {e : Env} (he : ∀ u, e u < 8) : Good lo w0 a nb (keyN f.freeBits e) (f.holds a e) := fun g hg e' he' hk => by
  have := tree_same g.size g f nb (Nat.le_refl _) hg h
  subst this
  exact keyN_holds a g he' he hk

end Go.Proofs.YtpaleogkgfclnaaGreatDoor

namespace Go.Proofs.YtpaleogkgfclnaaGreatDoor
open Go.RowKit
open Go.ChangeMaps
open Pl
set_option linter.unusedSimpArgs false
set_option linter.unusedVariables false

/-- a map from numbers to truth, of which each entry is right -/
def InnerOK (G : Nat → Bool → Prop) (es : Array MapEntry) : Prop := ∀ x ∈ es.toList, ∃ (k : Nat) (v : Bool), k < 4096 ∧ x.key = .int .i64 (k : Nat) ∧ x.val = .bool v ∧ G k v

/-- the holder's map of maps -/
structure Cache (G : Nat → Nat → Bool → Prop) (hb : Nat) (w : World) : Prop where
  at_ : ∃ (es : Array MapEntry) (clock : Nat), w.heap[hb]? = some (.map es clock) ∧
    (∀ x ∈ es.toList, ∃ (nb ib : Nat) (c : Array Value) (t : TypeId) (esi : Array MapEntry) (ci : Nat), x.key = kidV nb ∧ w.heap[nb]? = some (.cells c t (0, 0)) ∧ x.val = .map (some ib) ∧ hb < ib ∧ w.heap[ib]? = some (.map esi ci) ∧ InnerOK (G nb) esi) ∧
    ((∀ x ∈ es.toList, ∀ y ∈ es.toList, x.val = y.val → x.key = y.key) ∧ ∀ x ∈ es.toList, ∃ nb, x.key = kidV nb ∧ nb < hb)

/-- an inner map that the holder keeps for a formula -/
def Kept (G : Nat → Nat → Bool → Prop) (hb nb ib : Nat) (w : World) : Prop := ∃ (es : Array MapEntry) (clock : Nat), w.heap[hb]? = some (.map es clock) ∧ ∃ x ∈ es.toList, x.key = kidV nb ∧ x.val = .map (some ib)

/-- what a call of the holder leaves as it was: all below its map, and all cells -/
structure Fz (B : Nat) (w w' : World) : Prop where
  below : Below B w w'
  cells : ∀ (j : Nat) (c : Array Value) (t : TypeId) (k : Nat × Nat), w.heap[j]? = some (.cells c t k) → w'.heap[j]? = some (.cells c t k)

theorem Fz.refl (B : Nat) (w : World) : Fz B w w := ⟨Below.refl _ _, fun _ _ _ _ h => h⟩
theorem Fz.trans {B : Nat} {w w' w'' : World} (h : Fz B w w') (h' : Fz B w' w'') : Fz B w w'' := ⟨h.below.trans h'.below, fun j c t k hj => h'.cells j c t k (h.cells j c t k hj)⟩
theorem Fz.call {B : Nat} {w w' : World} (hB : B ≤ w.heap.size) (h : Below w.heap.size w w') : Fz B w w' := ⟨h.mono hB, fun j c t k hj => (h.block j (Array.getElem?_eq_some_iff.1 hj).1).trans hj⟩
theorem Fz.alloc {B : Nat} {w : World} (hB : B ≤ w.heap.size) (o : Obj) : Fz B w (w.alloc o) := Fz.call hB ((Below.refl _ _).alloc (Nat.le_refl _) o)
theorem Fz.drew {B : Nat} {w w' : World} (h : Fz B w w') : Fz B w w'.drew := ⟨h.below.drew, h.cells⟩
theorem Fz.bx {B : Nat} {w w' : World} {g : Nat} {t : TypeId} {cs : Array Value} (h : Fz B w w') (hx : Bx w g t cs) : Bx w' g t cs := h.cells g cs t (0, 0) hx

theorem Cache.keep {G : Nat → Nat → Bool → Prop} {hb : Nat} {w w' : World} (h : Cache G hb w) (hm : ∀ (j : Nat) (es : Array MapEntry) (c : Nat), w.heap[j]? = some (.map es c) → w'.heap[j]? = some (.map es c)) (hc : ∀ (j : Nat) (c : Array Value) (t : TypeId), w.heap[j]? = some (.cells c t (0, 0)) → ∃ (c' : Array Value) (t' : TypeId), w'.heap[j]? = some (.cells c' t' (0, 0))) : Cache G hb w' := by
  obtain ⟨es, clock, h1, h2, h3⟩ := h.at_
  refine ⟨es, clock, hm _ _ _ h1, fun x hx => ?_, h3⟩
  obtain ⟨nb, ib, c, t, esi, ci, a1, a2, a3, a4, a5, a6⟩ := h2 x hx
  obtain ⟨c', t', e⟩ := hc _ _ _ a2
  exact ⟨nb, ib, c', t', esi, ci, a1, e, a3, a4, hm _ _ _ a5, a6⟩
theorem Cache.call {G : Nat → Nat → Bool → Prop} {hb : Nat} {w w' : World} (h : Cache G hb w) (hb' : Below w.heap.size w w') : Cache G hb w' :=
  h.keep (fun j es c hj => (hb'.block j (Array.getElem?_eq_some_iff.1 hj).1).trans hj) (fun j c t hj => ⟨c, t, (hb'.block j (Array.getElem?_eq_some_iff.1 hj).1).trans hj⟩)
theorem Cache.alloc {G : Nat → Nat → Bool → Prop} {hb : Nat} {w : World} (h : Cache G hb w) (o : Obj) : Cache G hb (w.alloc o) := h.call ((Below.refl _ _).alloc (Nat.le_refl _) o)
theorem Cache.drew {G : Nat → Nat → Bool → Prop} {hb : Nat} {w : World} (h : Cache G hb w) : Cache G hb w.drew := ⟨h.at_⟩
/-- behind a list outside the cache that has grown -/
theorem Cache.app {G : Nat → Nat → Bool → Prop} {hb : Nat} {w w' : World} {row : Option Nat} (h : Cache G hb w) (hg : w.grownBy w' row) (hr : ∀ k, row = some k → hb < k ∧ ∃ c t, w.heap[k]? = some (.cells c t (0, 0))) : Cache G hb w' := by
  obtain ⟨es, clock, h1, h2, h3⟩ := h.at_
  have hm : ∀ (j : Nat) (es : Array MapEntry) (c : Nat), w.heap[j]? = some (.map es c) → w'.heap[j]? = some (.map es c) := fun j es c hj => (hg.block j (Array.getElem?_eq_some_iff.1 hj).1 (fun e => by
    obtain ⟨_, c', t', e2⟩ := hr j e.symm
    rw [hj] at e2; cases e2)).trans hj
  refine ⟨es, clock, hm _ _ _ h1, fun x hx => ?_, h3⟩
  obtain ⟨nb, ib, c, t, esi, ci, a1, a2, a3, a4, a5, a6⟩ := h2 x hx
  obtain ⟨nb', b1, b2⟩ := h3.2 x hx
  have hnb : nb' = nb := by
    rw [a1] at b1
    simp only [kidV, Value.pointer.injEq, Option.some.injEq, Addr.mk.injEq] at b1
    exact b1.1.symm
  subst hnb
  exact ⟨nb', ib, c, t, esi, ci, a1, (hg.block nb' (Array.getElem?_eq_some_iff.1 a2).1 (fun e => by
    have := (hr nb' e.symm).1; omega)).trans a2, a3, a4, hm _ _ _ a5, a6⟩
theorem Cache.lt {G : Nat → Nat → Bool → Prop} {hb : Nat} {w : World} (h : Cache G hb w) : hb < w.heap.size := by
  obtain ⟨es, clock, h1, _⟩ := h.at_
  exact (Array.getElem?_eq_some_iff.1 h1).1

section
variable {P : Program} {G : Nat → Nat → Bool → Prop} {hb nb : Nat} {w : World} {tm ko ti ki tb e : TypeId} {j : TypeInfo} {c : Array Value} {t : TypeId}

/-- looking up a formula's map -/
theorem Cache.look (h : Cache G hb w) (hto : P.underlying tm = some (.map ko ti)) (hko : P.underlying ko = some (.pointer e)) (he : P.info? e = some j) (hsz : j.size ≠ 0) (hz : (zeroValue ti).run P w = .ok (.map none) w) (hn : w.heap[nb]? = some (.cells c t (0, 0))) :
    (Instr.lookup tm (.map (some hb)) (kidV nb) false).run P w = .ok (.map none) w ∨
    ∃ (ib : Nat) (esi : Array MapEntry) (ci : Nat), (Instr.lookup tm (.map (some hb)) (kidV nb) false).run P w = .ok (.map (some ib)) w ∧ Kept G hb nb ib w ∧ hb < ib ∧ w.heap[ib]? = some (.map esi ci) ∧ InnerOK (G nb) esi := by
  obtain ⟨es, clock, h1, h2, h3⟩ := h.at_
  have hS : ∀ x ∈ es.toList, PKey w x.key := fun x hx => by
    obtain ⟨nb, ib, c, t, esi, ci, a1, a2, _⟩ := h2 x hx
    exact ⟨nb, c, t, a1, a2⟩
  rcases mlook false (pkey hko he hsz) hto hz h1 hS (key := kidV nb) ⟨nb, c, t, rfl, hn⟩ with ⟨hr, _⟩ | ⟨x, hx, hk, hr⟩
  · exact .inl (by simpa using hr)
  · obtain ⟨nb', ib, c', t', esi, ci, a1, a2, a3, a4, a5, a6⟩ := h2 x hx
    have hnb : nb' = nb := by
      rw [hk] at a1
      simp only [kidV, Value.pointer.injEq, Option.some.injEq, Addr.mk.injEq] at a1
      exact a1.1.symm
    subst hnb
    rw [a3] at hr
    exact .inr ⟨ib, esi, ci, by simpa using hr, ⟨es, clock, h1, x, hx, hk, a3⟩, a4, a5, a6⟩

/-- looking up a number -/
theorem inner_look {G : Nat → Bool → Prop} {ib : Nat} {esi : Array MapEntry} {ci k : Nat} (hi : w.heap[ib]? = some (.map esi ci)) (hok : InnerOK G esi) (hti : P.underlying ti = some (.map ki tb)) (hki : P.underlying ki = some (.int .i64)) (hz : (zeroValue tb).run P w = .ok (.bool false) w) (hk : k < 4096) :
    (Instr.lookup ti (.map (some ib)) (.int .i64 (k : Nat)) true).run P w = .ok (.tuple #[.bool false, .bool false]) w ∨
    ∃ v, (Instr.lookup ti (.map (some ib)) (.int .i64 (k : Nat)) true).run P w = .ok (.tuple #[.bool v, .bool true]) w ∧ G k v := by
  have hS : ∀ x ∈ esi.toList, IKey x.key := fun x hx => by
    obtain ⟨k, v, a1, a2, _⟩ := hok x hx
    exact ⟨k, a2, a1⟩
  rcases mlook true (ikey hki) hti hz hi hS (key := .int .i64 (k : Nat)) ⟨k, rfl, hk⟩ with ⟨hr, _⟩ | ⟨x, hx, hkx, hr⟩
  · exact .inl (by simpa using hr)
  · obtain ⟨k', v, a1, a2, a3, a4⟩ := hok x hx
    have : k' = k := by
      rw [hkx] at a2
      simp only [Value.int.injEq, true_and] at a2
      omega
    subst this
    rw [a3] at hr
    exact .inr ⟨v, by simpa using hr, a4⟩
theorem inner_look_nil {k : Nat} (hti : P.underlying ti = some (.map ki tb)) (hki : P.underlying ki = some (.int .i64)) (hz : (zeroValue tb).run P w = .ok (.bool false) w) (hk : k < 4096) :
    (Instr.lookup ti (.map none) (.int .i64 (k : Nat)) true).run P w = .ok (.tuple #[.bool false, .bool false]) w := by
  have := mlook_nil true (ikey (w := w) hki) hti hz (key := .int .i64 (k : Nat)) ⟨k, rfl, hk⟩
  simpa using this

theorem fz_set {B b : Nat} {es es' : Array MapEntry} {ci ci' : Nat} (hb : w.heap[b]? = some (.map es ci)) (hB : B ≤ b) : Fz B w (setBlock w b (.map es' ci')) := by
  refine ⟨⟨rfl, rfl, rfl, by simp [setBlock], fun i hi => heap_setBlock_other hb _ (by omega)⟩, fun j c t k hj => ?_⟩
  by_cases hjb : j = b
  · subst hjb; rw [hb] at hj; cases hj
  · rw [heap_setBlock_other hb _ hjb]; exact hj

/-- keeping a formula's truth at a number -/
theorem Cache.put {ib k : Nat} {esi : Array MapEntry} {ci : Nat} (h : Cache G hb w) (hkept : Kept G hb nb ib w) (hlt : hb < ib) (hi : w.heap[ib]? = some (.map esi ci)) (hok : InnerOK (G nb) esi) (hti : P.underlying ti = some (.map ki tb)) (hki : P.underlying ki = some (.int .i64)) (hk : k < 4096) {v : Bool} (hv : G nb k v) :
    ∃ W, (Instr.mapUpdate ti (.map (some ib)) (.int .i64 (k : Nat)) (.bool v)).run P w = .ok () W ∧ Cache G hb W ∧ Fz hb w W := by
  have hS : ∀ x ∈ esi.toList, IKey x.key := fun x hx => by
    obtain ⟨k, v, a1, a2, _⟩ := hok x hx
    exact ⟨k, a2, a1⟩
  obtain ⟨es', clock', hr, hes, _⟩ := mput (ikey hki) hti hi hS (key := .int .i64 (k : Nat)) ⟨k, rfl, hk⟩ (.bool v)
  have hok' : InnerOK (G nb) es' := fun x hx => by
    rcases hes x hx with ⟨hx, _⟩ | ⟨h1, h2⟩
    · exact hok x hx
    · exact ⟨k, v, hk, h1, h2, hv⟩
  refine ⟨_, hr, ?_, fz_set hi (Nat.le_of_lt hlt)⟩
  obtain ⟨es, clock, h1, h2, h3⟩ := h.at_
  obtain ⟨es0, clock0, h1', x0, hx0, hk0, hv0⟩ := hkept
  rw [h1] at h1'
  simp only [Option.some.injEq, Obj.map.injEq] at h1'
  obtain ⟨rfl, rfl⟩ := h1'
  refine ⟨es, clock, by rw [heap_setBlock_other hi _ (by omega)]; exact h1, fun x hx => ?_, h3⟩
  obtain ⟨nb', ib', c', t', esi', ci', a1, a2, a3, a4, a5, a6⟩ := h2 x hx
  have hc : (setBlock w ib (.map es' clock')).heap[nb']? = some (.cells c' t' (0, 0)) := (fz_set (B := hb) hi (Nat.le_of_lt hlt)).cells _ _ _ _ a2
  by_cases hib : ib' = ib
  · subst hib
    have hkk := h3.1 x hx x0 hx0 (by rw [a3, hv0])
    rw [a1, hk0] at hkk
    simp only [kidV, Value.pointer.injEq, Option.some.injEq, Addr.mk.injEq] at hkk
    obtain ⟨rfl, _⟩ := hkk
    exact ⟨nb', ib', c', t', es', clock', a1, hc, a3, a4, heap_setBlock_same hi _, hok'⟩
  · exact ⟨nb', ib', c', t', esi', ci', a1, hc, a3, a4, by rw [heap_setBlock_other hi _ hib]; exact a5, a6⟩

/-- a new map for a formula -/
theorem Cache.grow (h : Cache G hb w) (hto : P.underlying tm = some (.map ko ti)) (hko : P.underlying ko = some (.pointer e)) (he : P.info? e = some j) (hsz : j.size ≠ 0) (hn : w.heap[nb]? = some (.cells c t (0, 0))) (hnb : nb < hb) :
    ∃ W, (Instr.mapUpdate tm (.map (some hb)) (kidV nb) (.map (some w.heap.size))).run P (w.alloc (.map #[] 0)) = .ok () W ∧ Cache G hb W ∧ Fz hb w W ∧ ∃ (es : Array MapEntry) (clock : Nat), W.heap[hb]? = some (.map es clock) ∧ ∃ x ∈ es.toList, x.key = kidV nb := by
  have hA := h.alloc (.map #[] 0)
  have hlt := h.lt
  obtain ⟨es, clock, h1, h2, h3⟩ := h.at_
  have hkeep : ∀ (i : Nat) (o : Obj), w.heap[i]? = some o → (w.alloc (.map #[] 0)).heap[i]? = some o := fun i o hi => (((Below.refl w.heap.size w).alloc (Nat.le_refl _) (.map #[] 0)).block i (Array.getElem?_eq_some_iff.1 hi).1).trans hi
  have h1' := hkeep _ _ h1
  have hS : ∀ x ∈ es.toList, PKey (w.alloc (.map #[] 0)) x.key := fun x hx => by
    obtain ⟨nb, ib, c, t, esi, ci, a1, a2, _⟩ := h2 x hx
    exact ⟨nb, c, t, a1, hkeep _ _ a2⟩
  obtain ⟨es', clock', hr, hes, x0, hx0, hk0, hv0⟩ := mput (pkey hko he hsz) hto h1' hS (key := kidV nb) ⟨nb, c, t, rfl, hkeep _ _ hn⟩ (.map (some w.heap.size))
  have hnew : (w.alloc (.map #[] 0)).heap[w.heap.size]? = some (.map #[] 0) := heap_alloc_new w _
  have hfz : Fz hb (w.alloc (.map #[] 0)) (setBlock (w.alloc (.map #[] 0)) hb (.map es' clock')) := fz_set h1' (Nat.le_refl _)
  have hset : ∀ i, i ≠ hb → (setBlock (w.alloc (.map #[] 0)) hb (.map es' clock')).heap[i]? = (w.alloc (.map #[] 0)).heap[i]? := fun i hi => heap_setBlock_other h1' _ hi
  refine ⟨_, hr, ⟨es', clock', heap_setBlock_same h1' _, fun x hx => ?_, fun x hx y hy hxy => ?_, fun x hx => ?_⟩, (Fz.alloc (Nat.le_of_lt hlt) _).trans hfz, es', clock', heap_setBlock_same h1' _, x0, hx0, hk0⟩
  · rcases hes x hx with ⟨hx, _⟩ | ⟨e1, e2⟩
    · obtain ⟨nb', ib', c', t', esi', ci', a1, a2, a3, a4, a5, a6⟩ := h2 x hx
      exact ⟨nb', ib', c', t', esi', ci', a1, hfz.cells _ _ _ _ (hkeep _ _ a2), a3, a4, by rw [hset _ (by omega)]; exact hkeep _ _ a5, a6⟩
    · exact ⟨nb, w.heap.size, c, t, #[], 0, e1, hfz.cells _ _ _ _ (hkeep _ _ hn), e2, hlt, by rw [hset _ (by omega)]; exact hnew, fun x hx => by simp at hx⟩
  · have old : ∀ z, z ∈ es.toList → z.val ≠ .map (some w.heap.size) := fun z hz e => by
      obtain ⟨nb', ib', c', t', esi', ci', a1, a2, a3, a4, a5, a6⟩ := h2 z hz
      rw [a3] at e
      have := (Array.getElem?_eq_some_iff.1 a5).1
      simp only [Value.map.injEq, Option.some.injEq] at e
      omega
    rcases hes x hx with ⟨hx', _⟩ | ⟨e1, e2⟩ <;> rcases hes y hy with ⟨hy', _⟩ | ⟨f1, f2⟩
    · exact h3.1 x hx' y hy' hxy
    · exact absurd (hxy.trans f2) (old x hx')
    · exact absurd (hxy.symm.trans e2) (old y hy')
    · rw [e1, f1]
  · rcases hes x hx with ⟨hx', _⟩ | ⟨e1, _⟩
    · exact h3.2 x hx'
    · exact ⟨nb, e1, hnb⟩

/-- behind that the formula's map is found -/
theorem Cache.found (h : Cache G hb w) (hto : P.underlying tm = some (.map ko ti)) (hko : P.underlying ko = some (.pointer e)) (he : P.info? e = some j) (hsz : j.size ≠ 0) (hz : (zeroValue ti).run P w = .ok (.map none) w) (hn : w.heap[nb]? = some (.cells c t (0, 0)))
    (hx : ∃ (es : Array MapEntry) (clock : Nat), w.heap[hb]? = some (.map es clock) ∧ ∃ x ∈ es.toList, x.key = kidV nb) :
    ∃ (ib : Nat) (esi : Array MapEntry) (ci : Nat), (Instr.lookup tm (.map (some hb)) (kidV nb) false).run P w = .ok (.map (some ib)) w ∧ Kept G hb nb ib w ∧ hb < ib ∧ w.heap[ib]? = some (.map esi ci) ∧ InnerOK (G nb) esi := by
  obtain ⟨es, clock, h1, h2, h3⟩ := h.at_
  obtain ⟨es0, clock0, h1', x0, hx0, hk0⟩ := hx
  rw [h1] at h1'
  simp only [Option.some.injEq, Obj.map.injEq] at h1'
  obtain ⟨rfl, rfl⟩ := h1'
  have hS : ∀ x ∈ es.toList, PKey w x.key := fun x hx => by
    obtain ⟨nb, ib, c, t, esi, ci, a1, a2, _⟩ := h2 x hx
    exact ⟨nb, c, t, a1, a2⟩
  rcases mlook false (pkey hko he hsz) hto hz h1 hS (key := kidV nb) ⟨nb, c, t, rfl, hn⟩ with ⟨_, hno⟩ | ⟨x, hx, hk, hr⟩
  · exact absurd hk0 (hno x0 hx0)
  · obtain ⟨nb', ib, c', t', esi, ci, a1, a2, a3, a4, a5, a6⟩ := h2 x hx
    have hnb : nb' = nb := by
      rw [hk] at a1
      simp only [kidV, Value.pointer.injEq, Option.some.injEq, Addr.mk.injEq] at a1
      exact a1.1.symm
    subst hnb
    rw [a3] at hr
    exact ⟨ib, esi, ci, by simpa using hr, ⟨es, clock, h1, x, hx, hk, a3⟩, a4, a5, a6⟩

/-- a new holder's map -/
theorem cache_new (G : Nat → Nat → Bool → Prop) (w : World) : Cache G w.heap.size (w.alloc (.map #[] 0)) :=
  ⟨#[], 0, heap_alloc_new w _, fun x hx => by simp at hx, fun x hx => by simp at hx, fun x hx => by simp at hx⟩

end

end Go.Proofs.YtpaleogkgfclnaaGreatDoor

namespace Go.Proofs.YtpaleogkgfclnaaGreatDoor
open Go.RowKit
open Go.ChangeMaps
open Pl
set_option linter.unusedSimpArgs false
set_option linter.unusedVariables false

theorem or_at {fr : Nat} {e : Nat → Nat} (he : ∀ i, e i < 8) {k : Nat} (hk : k < 4) (hb : fr.testBit k = true) : bits .or .i64 ((keyTo fr e k : Nat) : Int) ((e k * 8 ^ k : Nat) : Int) = ((keyTo fr e (k + 1) : Nat) : Int) := by
  have h1 := keyTo_lt (fr := fr) he k
  have h2 := keyTo_lt (fr := fr) he (k + 1)
  have e1 : keyTo fr e (k + 1) = keyTo fr e k ||| (e k * 8 ^ k) := by rw [show keyTo fr e (k + 1) = if fr.testBit k then keyTo fr e k ||| (e k * 8 ^ k) else keyTo fr e k from rfl, hb]; rfl
  rw [e1] at h2 ⊢
  have hp : (8 : Nat) ^ (k + 1) ≤ 4096 := by
    have : k = 0 ∨ k = 1 ∨ k = 2 ∨ k = 3 := by omega
    rcases this with rfl | rfl | rfl | rfl <;> decide
  have hp1 : (8 : Nat) ^ (k + 1) = 8 * 8 ^ k := by rw [Nat.pow_succ, Nat.mul_comm]
  have hx : e k * 8 ^ k ≤ 7 * 8 ^ k := Nat.mul_le_mul_right _ (by have := he k; omega)
  generalize e k * 8 ^ k = y at *
  generalize keyTo fr e k = m at *
  have g1 : (BitVec.ofInt 64 (m : Int)).toNat = m := by
    rw [BitVec.ofInt_natCast, BitVec.toNat_ofNat]; exact Nat.mod_eq_of_lt (by omega)
  have g2 : (BitVec.ofInt 64 (y : Int)).toNat = y := by
    rw [BitVec.ofInt_natCast, BitVec.toNat_ofNat]; exact Nat.mod_eq_of_lt (by omega)
  show IntKind.i64.wrap ((BitVec.ofInt 64 (m : Int) ||| BitVec.ofInt 64 (y : Int)).toNat : Int) = _
  rw [BitVec.toNat_or, g1, g2, IntWalk.i64_in _ (by omega)]

theorem keyTo_no {fr : Nat} {e : Nat → Nat} {k : Nat} (hb : fr.testBit k = false) : keyTo fr e (k + 1) = keyTo fr e k := by
  rw [show keyTo fr e (k + 1) = if fr.testBit k then keyTo fr e k ||| (e k * 8 ^ k) else keyTo fr e k from rfl, hb]; rfl

theorem index4 (W : World) (E : Nat → Nat) (k : Nat) (hk : k < 4) : (Instr.index 99 (.agg #[.int .i64 (E 0 : Nat), .int .i64 (E 1 : Nat), .int .i64 (E 2 : Nat), .int .i64 (E 3 : Nat)]) (.int .i64 (k : Nat))).run Tryz.prog W = .ok (.int .i64 (E k : Nat)) W := by
  obtain ⟨i0, hi, hz0, hz1, hz2⟩ := info_parts (P := Tryz.prog) (e := 3) (z := .int .i64 0) (size := 1) (bytes := 8) (by kernel_rfl)
  have hu := Tryz.underlying99
  have : k = 0 ∨ k = 1 ∨ k = 2 ∨ k = 3 := by omega
  rcases this with rfl | rfl | rfl | rfl <;> simp [Instr.index, run_underlying hu, asIntOf, part, isAgg, sizeOf, typeInfo, hi, hz1, hz0, go_sem]

theorem eql_map (W : World) (m : Option Nat) : (binOp .eql 112 (.map m) (.map none)).run Tryz.prog W = .ok (.bool m.isNone) W := by
  have hu := Tryz.underlying112
  have h : ∀ d : Nat, (Op.equalIn (d + 1) 112 (.map m) (.map none)).run Tryz.prog W = .ok m.isNone W := fun d => by
    cases m <;> simp [Op.equalIn, run_underlying hu]
  simp only [binOp]
  simp [Op.equal, Op.maxDepth, h 9999]

/-- the holder, of a structure, for trees in a world -/
structure HoldW (lo : Nat) (w0 : World) (a : St) (hb : Nat) (w : World) : Prop where
  tr : Below w0.heap.size w0 w
  ge : w0.heap.size ≤ hb
  box : Bx w (hb + 1) 98 #[.int .i64 (a.n : Int), .string (bs a.set), .string (bs a.rel), .map (some hb)]
  cache : Cache (Good lo w0 a) hb w

theorem HoldW.step {lo : Nat} {w0 : World} {a : St} {hb : Nat} {w w' : World} (h : HoldW lo w0 a hb w) (hf : Fz hb w w') (hc : Cache (Good lo w0 a) hb w') : HoldW lo w0 a hb w' :=
  ⟨h.tr.trans (hf.below.mono h.ge), h.ge, hf.bx h.box, hc⟩
theorem HoldW.call {lo : Nat} {w0 : World} {a : St} {hb : Nat} {w w' : World} (h : HoldW lo w0 a hb w) (hf : Below w.heap.size w w') : HoldW lo w0 a hb w' :=
  h.step (Fz.call (Nat.le_of_lt h.cache.lt) hf) (h.cache.call hf)
theorem HoldW.alloc {lo : Nat} {w0 : World} {a : St} {hb : Nat} {w : World} (h : HoldW lo w0 a hb w) (o : Obj) : HoldW lo w0 a hb (w.alloc o) := h.call ((Below.refl _ _).alloc (Nat.le_refl _) o)
theorem HoldW.tree {lo : Nat} {w0 : World} {a : St} {hb : Nat} {w : World} (h : HoldW lo w0 a hb w) {f : Fm} {nb : Nat} (ht : TreeAt lo w0 f nb) : TreeAt lo w f nb := ht.below h.tr

/-- the elements of the four variables, as a value -/
def envA (e : Env) : Array Value := #[.int .i64 (e 0 : Nat), .int .i64 (e 1 : Nat), .int .i64 (e 2 : Nat), .int .i64 (e 3 : Nat)]

/-- what isTrue and decide give back for a formula -/
def HoldsBy (F : FuncId) (lo : Nat) (w0 : World) (a : St) (hb : Nat) (f : Fm) : Prop :=
  ∀ (nb : Nat) (e : Env) (w : World), TreeAt lo w0 f nb → (∀ v, e v < a.n) → HoldW lo w0 a hb w →
    Calls Tryz.prog F #[.pointer (some ⟨hb + 1, 0, none⟩), kidV nb, .agg (envA e)] w fun ed w' => ed = .returned (.bool (f.holds a e)) ∧ HoldW lo w0 a hb w' ∧ Fz hb w w'

set_option maxRecDepth 100000 in
set_option maxHeartbeats 4000000 in
theorem isTrue_of (lo : Nat) (w0 : World) (a : St) (ha : a.ok) (hb : Nat) (f : Fm) (hd : HoldsBy 88 lo w0 a hb f) : HoldsBy 74 lo w0 a hb f := by
  intro nb e w ht he hw
  have h8 := ha.hi
  have he8 : ∀ v, e v < 8 := fun v => Nat.lt_of_lt_of_le (he v) h8
  have hfr : f.freeBits < 16 := freeBits_lt f
  have hg := good_new a ht he8
  have hkl := keyN_lt (fr := f.freeBits) he8
  obtain ⟨E, hE⟩ : ∃ E, E = eN e := ⟨_, rfl⟩
  have hA : envA e = #[.int .i64 (E 0 : Nat), .int .i64 (E 1 : Nat), .int .i64 (E 2 : Nat), .int .i64 (E 3 : Nat)] := by rw [hE]; rfl
  have hd2 := fun (W : World) (hW : HoldW lo w0 a hb W) => hd nb e W ht he hW
  simp only [hA] at hd2 ⊢
  have Hd := Lib.hid hd2
  clear hd2 hA
  have Hnlt := Lib.hid (show nb < hb from by
    obtain ⟨ks, ⟨_, vs, ps, hh, _⟩, _⟩ := ht.open
    have h1 := (Array.getElem?_eq_some_iff.1 hh).1
    have h2 := hw.ge
    omega)
  have T0 := Lib.hid ht
  have W1 := Lib.hid (hw.alloc (.cells #[.int .i64 (E 0 : Nat), .int .i64 (E 1 : Nat), .int .i64 (E 2 : Nat), .int .i64 (E 3 : Nat)] 99))
  have hx := Bx.new w 99 #[.int .i64 (E 0 : Nat), .int .i64 (E 1 : Nat), .int .i64 (E 2 : Nat), .int .i64 (E 3 : Nat)]
  have F1 := Lib.hid (Fz.alloc (Nat.le_of_lt hw.cache.lt) (.cells #[.int .i64 (E 0 : Nat), .int .i64 (E 1 : Nat), .int .i64 (E 2 : Nat), .int .i64 (E 3 : Nat)] 99))
  obtain ⟨ks, vsv, psv, hc0, hc1, hc2, hc3, hc4, _⟩ := node_cells (W1.out.tree ht)
  obtain ⟨jf, hinf, hsz⟩ : ∃ j, Tryz.prog.info? 64 = some j ∧ j.size ≠ 0 := by
    have h : (Tryz.prog.info? 64).map (·.size) = some 5 := by kernel_rfl
    cases hi : Tryz.prog.info? 64 with
    | none => rw [hi] at h; cases h
    | some j => exact ⟨j, rfl, by rw [hi] at h; simp at h; omega⟩
  have hzm : ∀ W, (zeroValue 112).run Tryz.prog W = .ok (.map none) W := fun W => by kernel_rfl
  have hzb : ∀ W, (zeroValue 4).run Tryz.prog W = .ok (.bool false) W := fun W => by kernel_rfl
  obtain ⟨ks0, ⟨_, vs0, ps0, hbk, _⟩, _⟩ := (W1.out.tree ht).open
  have Hn := Lib.hid hbk
  clear hbk
  have b3 := W1.out.box.cell 3
  simp only [List.getElem?_toArray, List.getElem?_cons_zero, List.getElem?_cons_succ] at b3
  have v0 := hx.cell 0
  have v1 := hx.cell 1
  have v2 := hx.cell 2
  have v3 := hx.cell 3
  have Hx := Lib.hid hx
  have eE := eN_lt he8
  obtain ⟨fr, hfr2⟩ : ∃ fr, fr = f.freeBits := ⟨_, rfl⟩
  rw [← hfr2] at hc3 hfr
  rw [← hE] at eE
  have He8 := Lib.hid he8
  have Hg := Lib.hid hg
  have Hkl := Lib.hid hkl
  have HE := Lib.hid hE
  have Hfr := Lib.hid hfr2
  simp only [List.getElem?_toArray, List.getElem?_cons_zero, List.getElem?_cons_succ] at v0 v1 v2 v3
  clear hd ht hw hx hg hkl hE hfr2 he8 he h8 hc0 hc1 hc2 hc4
  go_enter Tryz.func74, Tryz.ntmps74
  go_wp2_with fail
  go_loop [7, 14] (fun o i => ∃ k : Nat, k ≤ 4 ∧ i = .int .i64 (k : Nat) ∧ o = .int .i64 (keyTo fr E k : Nat)) (fun _ i => 4 - (intOf i).toNat)
  case atStart => exact ⟨0, by omega, rfl, rfl⟩
  case round =>
    obtain ⟨k, hk, rfl, rfl⟩ := hrel
    by_cases hlt : k < 4
    · have hbit := shr_bit fr k hfr hlt
      have hx8 := eE k
      have hix := fun W => index4 W E k hlt
      have hor := fun h => or_at (fr := fr) eE hlt h
      have hno := fun h => keyTo_no (fr := fr) (e := E) (k := k) h
      have hsh : IntKind.i64.wrap (3 * (k : Int)) = ((3 * k : Nat) : Int) := by rw [IntWalk.i64_in _ (by omega)]; omega
      have hpw : wrap64 ((E k : Int) * 2 ^ (3 * k)) = ((E k * 8 ^ k : Nat) : Int) := by
        have hp : (8 : Nat) ^ k ≤ 512 := by
          have : k = 0 ∨ k = 1 ∨ k = 2 ∨ k = 3 := by omega
          rcases this with rfl | rfl | rfl | rfl <;> decide
        have e1 : ((E k : Int) * 2 ^ (3 * k)) = ((E k * 8 ^ k : Nat) : Int) := by rw [Int.natCast_mul, Int.natCast_pow, Int.pow_mul]; rfl
        have hm : E k * 8 ^ k ≤ 7 * 512 := Nat.mul_le_mul (by omega) hp
        rw [e1]
        unfold wrap64
        omega
      cases hb' : fr.testBit k with
      | true =>
        rw [hb'] at hbit
        have Hor := Lib.hid (hor hb')
        have Hpw := Lib.hid hpw
        clear hno hb' hor hpw
        go_wp2_with fail
        go_round
        case rel => exact ⟨k + 1, by omega, by go_num, congrArg _ (by rw [Hpw.out]; exact Hor.out)⟩
        case measure => simp [intOf]; omega
      | false =>
        rw [hb'] at hbit
        have hno := hno hb'
        have Hno := Lib.hid hno
        clear hor hb' hno
        go_wp2_with fail
        go_round
        case rel => exact ⟨k + 1, by omega, by go_num, by rw [Hno.out]⟩
        case measure => simp [intOf]; omega
    · obtain rfl : k = 4 := by omega
      obtain ⟨K, hK⟩ : ∃ K, K = keyTo fr E 4 := ⟨_, rfl⟩
      have hK2 : keyN f.freeBits e = K := by rw [hK, Hfr.out, HE.out]; rfl
      rw [← hK]
      rw [hK2] at Hg Hkl
      have HK := Lib.hid hK2
      clear hK hK2
      rcases W1.out.cache.look Tryz.underlying96 Tryz.underlying60 hinf hsz (hzm _) Hn.out with hr | ⟨ib, esi, ci, hr, hkept, hlt2, hi, hok⟩
      · have hr2 := inner_look_nil (P := Tryz.prog) (w := w.alloc (.cells #[.int .i64 (E 0 : Nat), .int .i64 (E 1 : Nat), .int .i64 (E 2 : Nat), .int .i64 (E 3 : Nat)] 99)) Tryz.underlying112 Tryz.underlying3 (hzb _) Hkl.out
        go_wp2_with fail
        refine (Hd.out _ W1.out).mono ?_
        clear hr hr2 b3
        rintro ed w2 ⟨rfl, hW2, hF2⟩
        have W2 := Lib.hid hW2
        have F2 := Lib.hid (F1.out.trans hF2)
        have b3 := hW2.box.cell 3
        simp only [List.getElem?_toArray, List.getElem?_cons_zero, List.getElem?_cons_succ] at b3
        have hq0 := eql_map w2 none
        have hq1 := fun m => eql_map w2 (some m)
        simp only [Option.isNone_none, Option.isNone_some] at hq0 hq1
        have hn2 := hF2.cells _ _ _ _ Hn.out
        clear hW2 hF2
        rcases W2.out.cache.look Tryz.underlying96 Tryz.underlying60 hinf hsz (hzm _) hn2 with hr | ⟨ib, esi, ci, hr, hkept, hlt, hi, hok⟩
        · obtain ⟨W, hr4, hcW, hfW, hin⟩ := W2.out.cache.grow Tryz.underlying96 Tryz.underlying60 hinf hsz hn2 Hnlt.out
          have W3 := Lib.hid (W2.out.step hfW hcW)
          obtain ⟨ib, esi, ci, hr5, hkept, hlt, hi, hok⟩ := hcW.found Tryz.underlying96 Tryz.underlying60 hinf hsz (hzm _) (hfW.cells _ _ _ _ hn2) hin
          obtain ⟨W', hr6, hcW', hfW'⟩ := hcW.put hkept hlt hi hok Tryz.underlying112 Tryz.underlying3 Hkl.out Hg.out
          have W4 := Lib.hid (W3.out.step hfW' hcW')
          have F4 := Lib.hid ((F2.out.trans hfW).trans hfW')
          have c3 := W3.out.box.cell 3
          have d3 := (W2.out.alloc (.map #[] 0)).box.cell 3
          simp only [List.getElem?_toArray, List.getElem?_cons_zero, List.getElem?_cons_succ] at c3 d3
          have hmk := run_makeMap (P := Tryz.prog) 112 w2
          clear hcW hfW hin hkept hlt hi hok hcW' hfW' hn2
          go_wp2_with fail
          go_ret
          exact ⟨rfl, W4.out, F4.out⟩
        · obtain ⟨W', hr6, hcW', hfW'⟩ := W2.out.cache.put hkept hlt hi hok Tryz.underlying112 Tryz.underlying3 Hkl.out Hg.out
          have W4 := Lib.hid (W2.out.step hfW' hcW')
          have F4 := Lib.hid (F2.out.trans hfW')
          clear hkept hlt hi hok hcW' hfW' hn2
          go_wp2_with fail
          go_ret
          exact ⟨rfl, W4.out, F4.out⟩
      · rcases inner_look (P := Tryz.prog) hi hok Tryz.underlying112 Tryz.underlying3 (hzb _) Hkl.out with hr2 | ⟨v, hr2, hv⟩
        · clear hkept hlt2 hi hok
          go_wp2_with fail
          refine (Hd.out _ W1.out).mono ?_
          clear hr hr2 b3
          rintro ed w2 ⟨rfl, hW2, hF2⟩
          have W2 := Lib.hid hW2
          have F2 := Lib.hid (F1.out.trans hF2)
          have b3 := hW2.box.cell 3
          simp only [List.getElem?_toArray, List.getElem?_cons_zero, List.getElem?_cons_succ] at b3
          have hq0 := eql_map w2 none
          have hq1 := fun m => eql_map w2 (some m)
          simp only [Option.isNone_none, Option.isNone_some] at hq0 hq1
          have hn2 := hF2.cells _ _ _ _ Hn.out
          clear hW2 hF2
          rcases W2.out.cache.look Tryz.underlying96 Tryz.underlying60 hinf hsz (hzm _) hn2 with hr | ⟨ib, esi, ci, hr, hkept, hlt, hi, hok⟩
          · obtain ⟨W, hr4, hcW, hfW, hin⟩ := W2.out.cache.grow Tryz.underlying96 Tryz.underlying60 hinf hsz hn2 Hnlt.out
            have W3 := Lib.hid (W2.out.step hfW hcW)
            obtain ⟨ib, esi, ci, hr5, hkept, hlt, hi, hok⟩ := hcW.found Tryz.underlying96 Tryz.underlying60 hinf hsz (hzm _) (hfW.cells _ _ _ _ hn2) hin
            obtain ⟨W', hr6, hcW', hfW'⟩ := hcW.put hkept hlt hi hok Tryz.underlying112 Tryz.underlying3 Hkl.out Hg.out
            have W4 := Lib.hid (W3.out.step hfW' hcW')
            have F4 := Lib.hid ((F2.out.trans hfW).trans hfW')
            have c3 := W3.out.box.cell 3
            have d3 := (W2.out.alloc (.map #[] 0)).box.cell 3
            simp only [List.getElem?_toArray, List.getElem?_cons_zero, List.getElem?_cons_succ] at c3 d3
            have hmk := run_makeMap (P := Tryz.prog) 112 w2
            clear hcW hfW hin hkept hlt hi hok hcW' hfW' hn2
            go_wp2_with fail
            go_ret
            exact ⟨rfl, W4.out, F4.out⟩
          · obtain ⟨W', hr6, hcW', hfW'⟩ := W2.out.cache.put hkept hlt hi hok Tryz.underlying112 Tryz.underlying3 Hkl.out Hg.out
            have W4 := Lib.hid (W2.out.step hfW' hcW')
            have F4 := Lib.hid (F2.out.trans hfW')
            clear hkept hlt hi hok hcW' hfW' hn2
            go_wp2_with fail
            go_ret
            exact ⟨rfl, W4.out, F4.out⟩
        · have hv2 := hv f T0.out e He8.out HK.out
          have Hv := Lib.hid hv2
          clear hkept hlt2 hi hok hv hv2
          go_wp2_with fail
          go_ret
          exact ⟨by rw [← Hv.out]; rfl, W1.out, F1.out⟩

end Go.Proofs.YtpaleogkgfclnaaGreatDoor

namespace Go.Proofs.YtpaleogkgfclnaaGreatDoor
open Go.RowKit
open Go.ChangeMaps
open Pl
set_option linter.unusedSimpArgs false
set_option linter.unusedVariables false

/-- the boxes of decide: the formula's address, the elements -/
structure DecB (w : World) (bn nb : Nat) (E : Nat → Nat) : Prop where
  node : Bx w bn 60 #[kidV nb]
  vals : Bx w (bn + 1) 99 #[.int .i64 (E 0 : Nat), .int .i64 (E 1 : Nat), .int .i64 (E 2 : Nat), .int .i64 (E 3 : Nat)]

theorem fin4 : ∀ v : Fin 4, v = 0 ∨ v = 1 ∨ v = 2 ∨ v = 3 := by decide

set_option maxRecDepth 100000 in
set_option maxHeartbeats 1000000 in
theorem at_calls {S : Nat → Prop} (f : Fm) (nb bn : Nat) (E : Nat → Nat) (w : World) (ht : TreeIn S w f nb) (hb : DecB w bn nb E) (i : Nat) (v : Fin 4) (hv : f.vars[i]? = some v) :
    Calls Tryz.prog 103 #[.int .i64 (i : Nat), .pointer (some ⟨bn + 1, 0, none⟩), .pointer (some ⟨bn, 0, none⟩)] w fun e w' => e = .returned (.int .i64 (E v.val : Nat)) ∧ w = w' := by
  obtain ⟨ks, vsv, psv, _, hc1, _, _, _, hrow, _⟩ := node_cells ht
  obtain ⟨a, cap, rfl, hl, hrow⟩ := row_slice hrow
  have hi : i < f.vars.length := (List.getElem?_eq_some_iff.1 hv).1
  have hl2 := vars_le f
  obtain ⟨g, rfl, hcell⟩ := hrow i hi
  have hcell2 : w.cell? ⟨g, i, none⟩ = some (byteV (vb v)) := by rw [hcell, List.getElem?_map, hv]; rfl
  have n0 := hb.node.cell 0
  have v0 := hb.vals.cell 0
  have v1 := hb.vals.cell 1
  have v2 := hb.vals.cell 2
  have v3 := hb.vals.cell 3
  simp only [List.getElem?_toArray, List.getElem?_cons_zero, List.getElem?_cons_succ] at n0 v0 v1 v2 v3
  unfold byteV at hcell2
  have i1 : (0 : Int) ≤ (i : Int) := by omega
  have i2 : (i : Int) < (f.vars.length : Int) := by omega
  generalize f.vars.length = nv at *
  clear hb ht hv hl hcell hrow hi hl2
  have : v = 0 ∨ v = 1 ∨ v = 2 ∨ v = 3 := fin4 v
  rcases this with rfl | rfl | rfl | rfl
  · have e : ((vb 0).toNat : Int) = 97 := by decide
    rw [e] at hcell2
    go_enter Tryz.func103, Tryz.ntmps103
    go_wp2_with fail
    go_ret
    exact ⟨rfl, rfl⟩
  · have e : ((vb 1).toNat : Int) = 98 := by decide
    rw [e] at hcell2
    go_enter Tryz.func103, Tryz.ntmps103
    go_wp2_with fail
    go_ret
    exact ⟨rfl, rfl⟩
  · have e : ((vb 2).toNat : Int) = 99 := by decide
    rw [e] at hcell2
    go_enter Tryz.func103, Tryz.ntmps103
    go_wp2_with fail
    go_ret
    exact ⟨rfl, rfl⟩
  · have e : ((vb 3).toNat : Int) = 100 := by decide
    rw [e] at hcell2
    go_enter Tryz.func103, Tryz.ntmps103
    go_wp2_with fail
    go_ret
    exact ⟨rfl, rfl⟩

end Go.Proofs.YtpaleogkgfclnaaGreatDoor
