/-
  PushNot, the program's and the reference's, and the walk of the law FnExactPushNot. Condition: texts below the reach.
-/
import Derived.Test.YtjmfldakfokoaaaSpecPush
import Derived.Test.YtjmfldakfokoaaaNot
namespace Go.Proofs.Ytjmfldakfokoaaa
open Go.RowKit
open Pl
set_option linter.unusedSimpArgs false

/-- a text and whether there is one, for a text that is a formula; else none -/
noncomputable def optV (l : List UInt8) (g : Fm → Option (List UInt8)) : ByteArray × Bool :=
  match parse l with
  | some (f, []) => if l.length ≤ 4000 then (match g f with | some t => if t.length ≤ 4000 then (bs t, true) else (bs [], false) | none => (bs [], false)) else (bs [], false)
  | _ => (bs [], false)

theorem optV_no {l : List UInt8} (g : Fm → Option (List UInt8)) (h : ¬ IsFm l) : optV l g = (bs [], false) := by
  unfold optV
  cases hp : parse l with
  | none => rfl
  | some x =>
    obtain ⟨f, r⟩ := x
    cases r with
    | nil =>
      have := parse_some.1 hp
      by_cases hl : l.length ≤ 4000
      · exact absurd ⟨hl, f, by simpa using this⟩ h
      · simp [hl]
    | cons a r => rfl

theorem optV_fm {l : List UInt8} {f : Fm} (g : Fm → Option (List UInt8)) (h : l = f.text) (hl : l.length ≤ 4000) :
    optV l g = match g f with | some t => if t.length ≤ 4000 then (bs t, true) else (bs [], false) | none => (bs [], false) := by
  unfold optV
  rw [parse_some.2 (show l = f.text ++ [] by rw [h]; simp)]
  simp [hl]

theorem optV_yes {l : List UInt8} {f : Fm} {t : List UInt8} (g : Fm → Option (List UInt8)) (h : l = f.text) (hl : l.length ≤ 4000) (hg : g f = some t) (ht : t.length ≤ 4000) : optV l g = (bs t, true) := by
  rw [optV_fm g h hl, hg]; simp [ht]
theorem optV_long {l : List UInt8} {f : Fm} {t : List UInt8} (g : Fm → Option (List UInt8)) (h : l = f.text) (hl : l.length ≤ 4000) (hg : g f = some t) (ht : 4000 < t.length) : optV l g = (bs [], false) := by
  rw [optV_fm g h hl, hg]; simp; omega
theorem optV_none {l : List UInt8} {f : Fm} (g : Fm → Option (List UInt8)) (h : l = f.text) (hl : l.length ≤ 4000) (hg : g f = none) : optV l g = (bs [], false) := by
  rw [optV_fm g h hl, hg]

def pairV (x : ByteArray × Bool) : Value := .tuple #[.string x.1, .bool x.2]

def pushO (f : Fm) : Option (List UInt8) := some (pushL false f)


set_option maxRecDepth 100000 in
theorem PushNot_spec (s : ByteArray) (w : World) (hs2 : s.size ≤ maxLen) :
    Calls Try.prog 19 #[.string s] w fun e w' => e = .returned (.tuple #[.string (optV s.data.toList pushO).1, .bool (optV s.data.toList pushO).2]) ∧ Below w.heap.size w w' := by
  rcases fm_cases s with ⟨hb, hno⟩ | ⟨f, hb, hf, hs4, hl4⟩
  · rw [optV_no pushO hno]
    have Hb := Lib.hid hb
    clear hb hno
    go_enter Try.func19, Try.ntmps19
    go_wp2_with (go_at_call 25; refine (FormulaValid_spec s _ hs2).mono ?_; rintro e w' ⟨rfl, rfl⟩; rw [Hb.out])
    go_ret2
    exact ⟨rfl, Below.refl _ _⟩
  · have hcall := l2Push_calls f.size false f s 0 [] 0 w (Nat.le_refl _) (by simpa using hf) (by omega) rfl
    have Hb := Lib.hid hb
    have Hcall := Lib.hid hcall
    clear hb hcall
    have hsz : (bs (pushL false f)).size = (pushL false f).length := bs_size _
    have hle := pushL_le false f
    by_cases hlen : (pushL false f).length ≤ 4000
    · rw [optV_yes pushO hf (by rw [hf]; exact hl4) rfl hlen]
      have hsz2 : (bs (pushL false f)).size ≤ 4000 := by omega
      clear hf hsz hlen
      go_enter Try.func19, Try.ntmps19
      go_wp2_with (first | (go_at_call 25; refine (FormulaValid_spec s _ hs2).mono ?_; rintro e w' ⟨rfl, rfl⟩; rw [Hb.out]) | (go_at_call 41; refine (Hcall.out).mono ?_; rintro e w1 ⟨rfl, hb1⟩))
      go_ret2
      exact ⟨rfl, hb1⟩
    · rw [optV_long pushO hf (by rw [hf]; exact hl4) rfl (by omega)]
      have hsz2 : 4000 < (bs (pushL false f)).size := by omega
      clear hf hsz hlen
      go_enter Try.func19, Try.ntmps19
      go_wp2_with (first | (go_at_call 25; refine (FormulaValid_spec s _ hs2).mono ?_; rintro e w' ⟨rfl, rfl⟩; rw [Hb.out]) | (go_at_call 41; refine (Hcall.out).mono ?_; rintro e w1 ⟨rfl, hb1⟩))
      go_ret2
      exact ⟨rfl, hb1⟩

set_option maxRecDepth 100000 in
theorem PushNot_impl (s : ByteArray) (w : World) :
    Calls Try.prog 20 #[.string s] w fun e w' => e = .returned (.tuple #[.string (optV s.data.toList pushO).1, .bool (optV s.data.toList pushO).2]) ∧ Below w.heap.size w w' := by
  rcases fm_cases s with ⟨hb, hno⟩ | ⟨f, hb, hf, hs4, hl4⟩
  · rw [optV_no pushO hno]
    have Hno := Lib.hid hno
    clear hb hno
    go_enter Try.func20, Try.ntmps20
    go_wp2_with (go_at_call 34; refine (parseFormula_no s w Hno.out).mono ?_; rintro e w1 ⟨rfl, hb1⟩)
    go_ret2
    exact ⟨rfl, hb1⟩
  · have hsz : (bs (pushL false f)).size = (pushL false f).length := bs_size _
    have hle := pushL_le false f
    have Hf := Lib.hid hf
    by_cases hlen : (pushL false f).length ≤ 4000
    · rw [optV_yes pushO hf (by rw [hf]; exact hl4) rfl hlen]
      have hsz2 : (bs (pushL false f)).size ≤ 4000 := by omega
      clear hb hf hsz hlen
      go_enter Try.func20, Try.ntmps20
      go_wp2_with (first | (go_at_call 34; refine (parseFormula_yes s f w hs4 Hf.out).mono ?_; rintro e w1 ⟨b, rfl, htr, hb1⟩; have Htr := Lib.hid htr; clear htr) | (go_at_call 42; refine (push_calls f.size false f b _ _ (Nat.le_refl _) Htr.out (by omega)).mono ?_; rintro e w2 ⟨rfl, hb2⟩) | (go_at_call 39; refine (shortFormula_yes _ _ hsz2).mono ?_; rintro e w3 ⟨rfl, rfl⟩))
      go_ret2
      exact ⟨rfl, hb1.trans (hb2.mono hb1.size)⟩
    · rw [optV_long pushO hf (by rw [hf]; exact hl4) rfl (by omega)]
      have hsz2 : 4000 < (bs (pushL false f)).size := by omega
      clear hb hf hsz hlen
      go_enter Try.func20, Try.ntmps20
      go_wp2_with (first | (go_at_call 34; refine (parseFormula_yes s f w hs4 Hf.out).mono ?_; rintro e w1 ⟨b, rfl, htr, hb1⟩; have Htr := Lib.hid htr; clear htr) | (go_at_call 42; refine (push_calls f.size false f b _ _ (Nat.le_refl _) Htr.out (by omega)).mono ?_; rintro e w2 ⟨rfl, hb2⟩) | (go_at_call 39; refine (shortFormula_no _ _ _ (fun _ => hsz2)).mono ?_; rintro e w3 ⟨rfl, rfl⟩))
      go_ret2
      exact ⟨rfl, hb1.trans (hb2.mono hb1.size)⟩


theorem FnExactPushNot_walk (s : ByteArray) (w : World) (hs : s.size ≤ maxLen) :
    Calls Try.prog 6 #[.string s] w fun e w' => e = .returned (.bool true) ∧ Below w.heap.size w w' := by
  have Hs := Lib.hid hs
  clear hs
  by_cases h : s.size ≤ 1048576
  · go_enter Try.func6, Try.ntmps6
    go_wp2_with (first | (go_at_call 19; refine (PushNot_spec s _ Hs.out).mono ?_; rintro e w1 ⟨rfl, hb1⟩) | (go_at_call 20; refine (PushNot_impl s _).mono ?_; rintro e w2 ⟨rfl, hb2⟩))
    go_ret
    exact ⟨rfl, hb1.trans (hb2.mono hb1.size)⟩
  · go_enter Try.func6, Try.ntmps6
    go_wp2_with fail
    go_ret
    exact ⟨rfl, Below.refl _ _⟩


end Go.Proofs.Ytjmfldakfokoaaa
