/-
  FormatStructure and OtherStructure, the program's and the reference's. Condition: texts below the reach.
-/
import Derived.Test.YtgnmlijfenjehaaDoorTurn
import Derived.Laws.IdiomStrings
import Derived.Laws.BytesString
namespace Go.Proofs.YtgnmlijfenjehaaDoor
open Go.RowKit
open Pl
set_option linter.unusedSimpArgs false
set_option linter.unusedVariables false

theorem flip_snoc (s : ByteArray) (k : Nat) (h : k < s.size) : bs (flipL (s.data.toList.take k)) ++ bs [bitB (s[k] == 48)] = bs (flipL (s.data.toList.take (k + 1))) := by
  rw [append_bs, bs_data, bs_data]
  congr 1
  unfold flipL
  rw [List.take_succ_eq_append_getElem (by simpa using h), List.map_append]
  rfl

def byteS (b : UInt8) : Value := .int .u8 b.toNat

/-- a row of bytes that may be written -/
def BRow (w : World) (g : Nat) (l : List UInt8) : Prop := ∀ j, j < l.length → w.cell? ⟨g, j, none⟩ = some (byteS (l.getD j 0)) ∧ w.frozen? ⟨g, j, none⟩ = false

/-- the first k bytes turned -/
def flipTo (l : List UInt8) (k : Nat) : List UInt8 := flipL (l.take k) ++ l.drop k

theorem flipTo_len (l : List UInt8) (k : Nat) : (flipTo l k).length = l.length := by simp [flipTo, flipL]; omega
theorem flipTo_get (l : List UInt8) (k j : Nat) (h : j < l.length) : (flipTo l k).getD j 0 = if j < k then bitB (l[j] == 48) else l[j] := by
  unfold flipTo
  by_cases hj : j < k
  · rw [if_pos hj, List.getD_eq_getElem?_getD, List.getElem?_append_left (by simp [flipL]; omega)]
    simp [flipL, List.getElem?_take, hj, h]
  · rw [if_neg hj, List.getD_eq_getElem?_getD, List.getElem?_append_right (by simp [flipL]; omega)]
    have e : j - (flipL (l.take k)).length = j - k := by simp [flipL]; omega
    rw [e, List.getElem?_drop, show k + (j - k) = j by omega]
    simp [h]

theorem BRow.step {w : World} {g : Nat} {l : List UInt8} {k : Nat} (h : BRow w g (flipTo l k)) (hk : k < l.length) : BRow (w.setCell ⟨g, k, none⟩ (byteS (bitB (l[k] == 48)))) g (flipTo l (k + 1)) := by
  intro j hj
  rw [flipTo_len] at hj
  have h1 := h j (by rw [flipTo_len]; exact hj)
  refine ⟨?_, by rw [World.frozen?_setCell]; exact h1.2⟩
  rw [flipTo_get l (k + 1) j hj]
  by_cases e : j = k
  · subst e
    rw [if_pos (Nat.lt_succ_self _), World.cell?_setCell_same w _ _ h1.1]
  · rw [World.cell?_setCell_other w _ _ _ (by intro h2; injection h2 with _ h3; exact e h3.symm), h1.1, flipTo_get l k j hj]
    by_cases hjk : j < k
    · rw [if_pos hjk, if_pos (by omega)]
    · rw [if_neg hjk, if_neg (by omega)]

theorem bytes_pushS : ∀ (bytes : List UInt8) (s : ByteArray), (bytes.map fun b => (b.toNat : Int)).foldl (fun r n => r.push (UInt8.ofNat n.toNat)) s = bs (s.data.toList ++ bytes) := by
  intro bytes
  induction bytes with
  | nil => intro s; simp [bs_of]
  | cons b bytes ih =>
    intro s
    rw [List.map_cons, List.foldl_cons, ih]
    congr 1
    simp

theorem row_text {w : World} {g cap : Nat} {l : List UInt8} (h : BRow w g l) : (convert 32 9 (.slice (some ⟨g, 0, none⟩) l.length cap)).run Tryd.prog w = .ok (.string (bs l)) w := by
  rw [run_convert_bytes_string w _ _ 5 _ _ cap Tryd.underlying32 Tryd.underlying5 Tryd.underlying9]
  rw [run_bytesToString w ⟨g, 0, none⟩ l.length cap (l.map fun b => (b.toNat : Int))]
  · rw [bytes_pushS]; rfl
  · have hcells := run_loadCells (P := Tryd.prog) (w := w) ⟨g, 0, none⟩ l.length (fun j => byteS (l.getD j 0)) (fun j hj => by
      have e1 : (⟨g, 0, none⟩ : Addr).add j = ⟨g, j, none⟩ := by unfold Addr.add; split <;> simp_all
      rw [e1]; exact (h j hj).1)
    rw [hcells]
    congr 1
    apply Array.ext'
    simp only [List.map_map]
    apply List.ext_getElem?
    intro i
    by_cases hi : i < l.length
    · simp [List.getElem?_map, hi, byteS, List.getD]
    · simp [hi, List.getElem?_eq_none (show l.length ≤ i by omega)]

theorem bytesRow_get (s : ByteArray) (cap j : Nat) (h : j < s.size) : (bytesRow s cap)[j]? = some (byteS (s.data.toList.getD j 0)) := by
  unfold bytesRow
  have hl : j < s.data.size := h
  rw [Array.getElem?_append_left (by simpa using hl)]
  simp [byteS, List.getD, Array.getElem?_eq_getElem hl]

theorem bytesRow_size (s : ByteArray) (cap : Nat) : s.size ≤ (bytesRow s cap).size := by
  have h1 : s.size = s.data.size := rfl
  unfold bytesRow; rw [h1]; simp only [Array.size_append, Array.size_map]; omega

theorem flip_byte {b : UInt8} (h : IsBit b) : IntKind.u8.wrap (97 - (b.toNat : Int)) = ((bitB (b == 48)).toNat : Int) := by
  rcases h with rfl | rfl <;> decide

def otherO (i : Int) (s r : ByteArray) : Option St := if okB i s r then some (ofSt i s r).other else none
def fmtV (i : Int) (s r : ByteArray) : ByteArray := if okB i s r then s ++ ⟨#[58]⟩ ++ r else bs []

theorem other_eq {a : St} (ha : a.ok) : stV (a.n : Int) (bs (flipL (bs a.set).data.toList)) (bs (flipL (bs a.rel).data.toList)) = stA a.other := by
  show stV _ _ _ = stV _ _ _
  rw [bs_data, bs_data, other_set ha, other_rel ha]
  rfl

theorem st_small {a : St} (ha : a.ok) : (bs a.set).size ≤ 64 ∧ (bs a.rel).size ≤ 64 := by
  have h8 := ha.hi; have h1 := ha.sl; have h2 := ha.rl; have h3 := sq_le h8
  rw [bs_size, bs_size]
  constructor <;> omega

end Go.Proofs.YtgnmlijfenjehaaDoor
