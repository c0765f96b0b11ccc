/-
  Walks of the program's readers of formulas, and of the library's IndexByte and Contains at one byte. Condition: lengths below the reach.
-/
import Derived.Test.YtjmfldakfokoaaaSpecA
import Derived.Lib.Bytealg
import Derived.Lib.IndexBytes
namespace Go.Proofs.Ytjmfldakfokoaaa
open Go.RowKit
open Pl

theorem slIndexByte_calls (s : ByteArray) (c : Int) (w : World) :
    Calls Try.prog 73 #[.string s, .int .u8 c] w fun e w' => e = .returned (.int .i64 (Lib.indexByte s.data.toList c.toNat.toUInt8)) ∧ w = w' := by
  go_enter Try.func73, Try.ntmps73
  go_wp2
  rw [run_callFunc_extern Try.func75 (by kernel_rfl) (by kernel_rfl) (by kernel_rfl) (by kernel_rfl), Lib.run_indexByteString]
  simp only [Result.andThen]
  rw [Oper.upon_value]
  go_wp2
  go_ret
  exact ⟨rfl, rfl⟩

theorem IndexByte_calls (s : ByteArray) (c : UInt8) (w : World) :
    Calls Try.prog 65 #[.string s, .int .u8 c.toNat] w fun e w' => e = .returned (.int .i64 (Lib.indexByte s.data.toList c)) ∧ w = w' := by
  go_enter Try.func65, Try.ntmps65
  go_wp2_with (go_at_call 73; refine (slIndexByte_calls _ _ _).mono ?_; rintro e w' ⟨rfl, rfl⟩)
  go_ret
  exact ⟨ret_int (by simp), rfl⟩

theorem slIndex_one (s t : ByteArray) (b : UInt8) (ht : t.data.toList = [b]) (w : World) :
    Calls Try.prog 74 #[.string s, .string t] w fun e w' => e = .returned (.int .i64 (Lib.indexByte s.data.toList b)) ∧ w = w' := by
  have hsz : t.size = 1 := by have := congrArg List.length ht; simpa using this
  have hb : ∀ h : 0 < t.size, t[0] = b := fun h => by
    have h1 : t.data.toList[0]? = some b := by rw [ht]; rfl
    rw [List.getElem?_eq_getElem (by simpa using h)] at h1
    injection h1
  have Hb := Lib.hid hb
  have Ht := Lib.hid ht
  clear hb ht
  go_enter Try.func74, Try.ntmps74
  go_wp2_with (go_at_call 73; refine (slIndexByte_calls _ _ _).mono ?_; rintro e w' ⟨rfl, rfl⟩)
  · go_ret
    refine ⟨ret_int ?_, rfl⟩
    have he : (t.toList == s.toList) = true := by assumption
    have he2 : t.toList = s.toList := eq_of_beq he
    rw [ByteArray.toList_eq, ByteArray.toList_eq, Ht.out] at he2
    rw [← he2]
    simp [Lib.indexByte]
  · go_ret
    exact ⟨ret_int (by rw [Hb.out (by omega)]), rfl⟩

theorem Contains_one (s t : ByteArray) (b : UInt8) (ht : t.data.toList = [b]) (w : World) :
    Calls Try.prog 64 #[.string s, .string t] w fun e w' => e = .returned (.bool (decide (0 ≤ Lib.indexByte s.data.toList b))) ∧ w = w' := by
  have Ht := Lib.hid ht
  clear ht
  have h36 : ∀ w, Calls Try.prog 72 #[.string s, .string t] w fun e w' => e = .returned (.int .i64 (Lib.indexByte s.data.toList b)) ∧ w = w' := fun w => by
    go_enter Try.func72, Try.ntmps72
    go_wp2_with (go_at_call 74; refine (slIndex_one _ _ b Ht.out _).mono ?_; rintro e w' ⟨rfl, rfl⟩)
    go_ret
    exact ⟨rfl, rfl⟩
  have H36 := Lib.hid h36
  clear h36
  go_enter Try.func64, Try.ntmps64
  go_wp2_with (go_at_call 72; refine (H36.out _).mono ?_; rintro e w' ⟨rfl, rfl⟩)
  go_ret
  exact ⟨rfl, rfl⟩

/-! ### the tree in memory -/

/-- the variables that are free, as bits -/
def Pl.Fm.freeBits : Fm → Nat
  | .tru => 0 | .fls => 0 | .pr v => 1 <<< v.val | .eq v w => 1 <<< v.val ||| 1 <<< w.val | .rel v w => 1 <<< v.val ||| 1 <<< w.val
  | .neg p => p.freeBits | .con p q => p.freeBits ||| q.freeBits | .dis p q => p.freeBits ||| q.freeBits
  | .qu _ v p => p.freeBits &&& (15 ^^^ 1 <<< v.val)

/-- all variables, as bits -/
def Pl.Fm.allBits : Fm → Nat
  | .tru => 0 | .fls => 0 | .pr v => 1 <<< v.val | .eq v w => 1 <<< v.val ||| 1 <<< w.val | .rel v w => 1 <<< v.val ||| 1 <<< w.val
  | .neg p => p.allBits | .con p q => p.allBits ||| q.allBits | .dis p q => p.allBits ||| q.allBits
  | .qu _ v p => 1 <<< v.val ||| p.allBits

abbrev kidV (k : Nat) : Value := .pointer (some ⟨k, 0, none⟩)
def byteV (b : UInt8) : Value := .int .u8 b.toNat

/-- block b holds a node with this operator, these variables, these masks and these children; all blocks that it owns are in S -/
def NodeIn (S : Nat → Prop) (w : World) (op : UInt8) (vars : List (Fin 4)) (free all : Nat) (b : Nat) (ks : List Nat) : Prop :=
  S b ∧ ∃ vs ps, w.heap[b]? = some (.cells #[.int .u8 op.toNat, vs, ps, .int .i64 free, .int .i64 all] 44 (0, 0)) ∧
    w.ownsRow 0 5 1 vs vars.length (vars.map fun v => byteV (vb v)) ∧ (∀ k, vs.ownBlock = some k → S k) ∧
    w.ownsRow 0 39 1 ps ks.length (ks.map kidV) ∧ (∀ k, ps.ownBlock = some k → S k)

def FmNode (S : Nat → Prop) (w : World) (f : Fm) (b : Nat) (ks : List Nat) : Prop := NodeIn S w f.op f.vars f.freeBits f.allBits b ks

/-- block b holds the tree of a formula, whose blocks are all in S -/
def TreeIn (S : Nat → Prop) (w : World) : Fm → Nat → Prop
  | .neg p, b => ∃ k, FmNode S w (.neg p) b [k] ∧ TreeIn S w p k
  | .qu q v p, b => ∃ k, FmNode S w (.qu q v p) b [k] ∧ TreeIn S w p k
  | .con p q, b => ∃ k l, FmNode S w (.con p q) b [k, l] ∧ TreeIn S w p k ∧ TreeIn S w q l
  | .dis p q, b => ∃ k l, FmNode S w (.dis p q) b [k, l] ∧ TreeIn S w p k ∧ TreeIn S w q l
  | .tru, b => FmNode S w .tru b []
  | .fls, b => FmNode S w .fls b []
  | .pr v, b => FmNode S w (.pr v) b []
  | .eq v u, b => FmNode S w (.eq v u) b []
  | .rel v u, b => FmNode S w (.rel v u) b []

/-- the trees of a list of formulas -/
def TreesIn (S : Nat → Prop) (w : World) (ps : List Fm) (ks : List Nat) : Prop := ks.length = ps.length ∧ ∀ (i : Nat) (p : Fm) (k : Nat), ps[i]? = some p → ks[i]? = some k → TreeIn S w p k

theorem treesIn_nil (S : Nat → Prop) (w : World) : TreesIn S w [] [] := ⟨rfl, fun i p k h => by simp at h⟩
theorem treesIn_one {S : Nat → Prop} {w : World} {p : Fm} {k : Nat} (h : TreeIn S w p k) : TreesIn S w [p] [k] := ⟨rfl, fun i p' k' h1 h2 => by
  match i, h1, h2 with
  | 0, h1, h2 => simp at h1 h2; subst h1 h2; exact h⟩
theorem treesIn_two {S : Nat → Prop} {w : World} {p q : Fm} {k l : Nat} (h : TreeIn S w p k) (h' : TreeIn S w q l) : TreesIn S w [p, q] [k, l] := ⟨rfl, fun i p' k' h1 h2 => by
  match i, h1, h2 with
  | 0, h1, h2 => simp at h1 h2; subst h1 h2; exact h
  | 1, h1, h2 => simp at h1 h2; subst h1 h2; exact h'⟩
theorem treesIn_snoc {S : Nat → Prop} {w : World} {ps : List Fm} {ks : List Nat} {p : Fm} {k : Nat} (hs : TreesIn S w ps ks) (h : TreeIn S w p k) : TreesIn S w (ps ++ [p]) (ks ++ [k]) :=
  ⟨by simp [hs.1], fun i p' k' h1 h2 => by
    by_cases hi : i < ps.length
    · rw [List.getElem?_append_left hi] at h1
      rw [List.getElem?_append_left (by rw [hs.1]; exact hi)] at h2
      exact hs.2 i p' k' h1 h2
    · rw [List.getElem?_append_right (by omega)] at h1
      rw [List.getElem?_append_right (by rw [hs.1]; omega), hs.1] at h2
      match i - ps.length, h1, h2 with
      | 0, h1, h2 => simp at h1 h2; subst h1 h2; exact h
      | j + 1, h1, h2 => simp at h1⟩

theorem TreeIn.open {S : Nat → Prop} {w : World} {f : Fm} {b : Nat} (h : TreeIn S w f b) : ∃ ks, FmNode S w f b ks ∧ TreesIn S w f.parts ks := by
  cases f with
  | tru => exact ⟨[], h, treesIn_nil _ _⟩
  | fls => exact ⟨[], h, treesIn_nil _ _⟩
  | pr v => exact ⟨[], h, treesIn_nil _ _⟩
  | eq v u => exact ⟨[], h, treesIn_nil _ _⟩
  | rel v u => exact ⟨[], h, treesIn_nil _ _⟩
  | neg p => obtain ⟨k, h1, h2⟩ := h; exact ⟨_, h1, treesIn_one h2⟩
  | qu q v p => obtain ⟨k, h1, h2⟩ := h; exact ⟨_, h1, treesIn_one h2⟩
  | con p q => obtain ⟨k, l, h1, h2, h3⟩ := h; exact ⟨_, h1, treesIn_two h2 h3⟩
  | dis p q => obtain ⟨k, l, h1, h2, h3⟩ := h; exact ⟨_, h1, treesIn_two h2 h3⟩

theorem TreeIn.shut {S : Nat → Prop} {w : World} {f : Fm} {b : Nat} {ks : List Nat} (h : FmNode S w f b ks) (ht : TreesIn S w f.parts ks) : TreeIn S w f b := by
  obtain ⟨hl, ht⟩ := ht
  cases f with
  | tru => match ks, hl with | [], _ => exact h
  | fls => match ks, hl with | [], _ => exact h
  | pr v => match ks, hl with | [], _ => exact h
  | eq v u => match ks, hl with | [], _ => exact h
  | rel v u => match ks, hl with | [], _ => exact h
  | neg p => match ks, hl with | [k], _ => exact ⟨k, h, ht 0 p k rfl rfl⟩
  | qu q v p => match ks, hl with | [k], _ => exact ⟨k, h, ht 0 p k rfl rfl⟩
  | con p q => match ks, hl with | [k, l], _ => exact ⟨k, l, h, ht 0 p k rfl rfl, ht 1 q l rfl rfl⟩
  | dis p q => match ks, hl with | [k, l], _ => exact ⟨k, l, h, ht 0 p k rfl rfl, ht 1 q l rfl rfl⟩

theorem block_lt {w : World} {b : Nat} {x : Obj} (h : w.heap[b]? = some x) : b < w.heap.size := by
  rcases Nat.lt_or_ge b w.heap.size with hlt | hge
  · exact hlt
  · rw [Array.getElem?_eq_none hge] at h; cases h

/-- a row keeps, where its block does -/
theorem ownsRow_keep {w w' : World} {base base' : Nat} {e : TypeId} {size : Nat} {v : Value} {n : Nat} {xs : List Value} (h : w.ownsRow base e size v n xs)
    (hk : ∀ g, v.ownBlock = some g → w'.heap[g]? = w.heap[g]? ∧ base' ≤ g) : w'.ownsRow base' e size v n xs := by
  obtain ⟨hl, h | ⟨g, cap, cur, rfl, h2, h3, h4⟩⟩ := h
  · exact ⟨hl, .inl h⟩
  · obtain ⟨e1, e2⟩ := hk g rfl
    exact ⟨hl, .inr ⟨g, cap, cur, rfl, e2, e1.trans h3, h4⟩⟩

theorem ownsRow_lt {w : World} {base : Nat} {e : TypeId} {size : Nat} {v : Value} {n : Nat} {xs : List Value} (h : w.ownsRow base e size v n xs) {k : Nat} (hk : v.ownBlock = some k) : base ≤ k ∧ k < w.heap.size := h.lt k hk

/-- what a node's keeping asks -/
theorem NodeIn.keep {S S' : Nat → Prop} {w w' : World} {op : UInt8} {vars : List (Fin 4)} {free all b : Nat} {ks : List Nat} (h : NodeIn S w op vars free all b ks)
    (hk : ∀ g, S g → g < w.heap.size → w'.heap[g]? = w.heap[g]? ∧ S' g) : NodeIn S' w' op vars free all b ks := by
  obtain ⟨h0, vs, ps, h1, h2, h3, h4, h5⟩ := h
  have e := hk b h0 (block_lt h1)
  exact ⟨e.2, vs, ps, e.1.trans h1,
    ownsRow_keep h2 (fun g hg => ⟨(hk g (h3 g hg) (ownsRow_lt h2 hg).2).1, Nat.zero_le _⟩), fun g hg => (hk g (h3 g hg) (ownsRow_lt h2 hg).2).2,
    ownsRow_keep h4 (fun g hg => ⟨(hk g (h5 g hg) (ownsRow_lt h4 hg).2).1, Nat.zero_le _⟩), fun g hg => (hk g (h5 g hg) (ownsRow_lt h4 hg).2).2⟩

theorem TreeIn.keep {S S' : Nat → Prop} {w w' : World} (hk : ∀ g, S g → g < w.heap.size → w'.heap[g]? = w.heap[g]? ∧ S' g) : ∀ (f : Fm) (b : Nat), TreeIn S w f b → TreeIn S' w' f b := by
  intro f
  induction f with
  | tru => intro b h; exact NodeIn.keep h hk
  | fls => intro b h; exact NodeIn.keep h hk
  | pr v => intro b h; exact NodeIn.keep h hk
  | eq v u => intro b h; exact NodeIn.keep h hk
  | rel v u => intro b h; exact NodeIn.keep h hk
  | neg p ih => intro b h; obtain ⟨k, h1, h2⟩ := h; exact ⟨k, NodeIn.keep h1 hk, ih _ h2⟩
  | qu q v p ih => intro b h; obtain ⟨k, h1, h2⟩ := h; exact ⟨k, NodeIn.keep h1 hk, ih _ h2⟩
  | con p q ihp ihq => intro b h; obtain ⟨k, l, h1, h2, h3⟩ := h; exact ⟨k, l, NodeIn.keep h1 hk, ihp _ h2, ihq _ h3⟩
  | dis p q ihp ihq => intro b h; obtain ⟨k, l, h1, h2, h3⟩ := h; exact ⟨k, l, NodeIn.keep h1 hk, ihp _ h2, ihq _ h3⟩

theorem TreesIn.keep {S S' : Nat → Prop} {w w' : World} (hk : ∀ g, S g → g < w.heap.size → w'.heap[g]? = w.heap[g]? ∧ S' g) {ps : List Fm} {ks : List Nat} (h : TreesIn S w ps ks) : TreesIn S' w' ps ks :=
  ⟨h.1, fun i p k h1 h2 => TreeIn.keep hk p k (h.2 i p k h1 h2)⟩

/-- the tree lies from block lo on -/
def TreeAt (lo : Nat) (w : World) (f : Fm) (b : Nat) : Prop := TreeIn (fun g => lo ≤ g) w f b

theorem TreeAt.below {lo : Nat} {w w' : World} {f : Fm} {b : Nat} (h : TreeAt lo w f b) (hb : Below w.heap.size w w') : TreeAt lo w' f b :=
  TreeIn.keep (fun g hs hg => ⟨hb.block g hg, hs⟩) f b h

theorem TreeAt.base {lo lo' : Nat} {w : World} {f : Fm} {b : Nat} (h : TreeAt lo w f b) (hl : lo' ≤ lo) : TreeAt lo' w f b :=
  TreeIn.keep (fun _ hs _ => ⟨rfl, Nat.le_trans hl hs⟩) f b h

theorem TreeAt.drew {lo : Nat} {w : World} {f : Fm} {b : Nat} (h : TreeAt lo w f b) : TreeAt lo w.drew f b := TreeIn.keep (w := w) (w' := w.drew) (fun _ hs _ => ⟨rfl, hs⟩) f b h

end Go.Proofs.Ytjmfldakfokoaaa
