/-
  Laws of the functions that the claim reaches, one after the other (packed by a program of the prover's: FreeB, Repl, SRen, SSpl). Conditions: texts below the reach.
-/
import Derived.Test.YtpaleogkgfclnaaDoorPs4
import Derived.Laws.AppendOwnNone
import Derived.Maps.AppendAt
import Derived.OwnWalk
import Derived.Test.YtpaleogkgfclnaaDoorPs0
set_option linter.unusedSimpArgs false
set_option linter.unusedVariables false

namespace Go.Proofs.YtpaleogkgfclnaaDoor
open Go.RowKit
open Pl
set_option linter.unusedSimpArgs false

theorem l2Var_big (s : ByteArray) (k : Nat) (v : Fin 4) (r : List UInt8) (m : Int) (w : World) (hs : s.size ≤ 1000000000) (h : s.data.toList.drop k = vb v :: r) (hm : m = k) :
    Calls Tryd.prog 76 #[.string s, .int .i64 m] w fun e w' => e = .returned (.int .i64 v.val) ∧ w = w' := by
  subst hm
  have hk : k < s.size := by
    have := congrArg List.length h
    rw [List.length_drop, ← Lib.size_eq] at this
    simp at this; omega
  rw [← varI_of h]
  exact l2Var_at s k w (by unfold maxLen; omega) (by omega) (by unfold maxLen; omega)

set_option maxHeartbeats 1000000 in
set_option maxRecDepth 100000 in
theorem l2Free_big (n : Nat) : ∀ (f : Fm) (s : ByteArray) (k : Nat) (r : List UInt8) (m : Int) (w : World), f.size ≤ n → s.data.toList.drop k = f.text ++ r → s.size ≤ 1000000000 → m = k →
    Calls Tryd.prog 93 #[.string s, .int .i64 m] w fun e w' => e = .returned (.tuple #[.int .i64 f.freeBits, .int .i64 (k + f.text.length : Nat)]) ∧ w = w' := by
  induction n with
  | zero => intro f s k r m w hn; cases f <;> simp [Fm.size] at hn
  | succ n ih =>
    intro f s k r m w hn hd hs hm
    subst hm
    obtain ⟨hk1, hop, hle⟩ := at_op hd
    have hk := hk1
    have Ih := Lib.hid ih
    clear ih
    cases f with
    | tru =>
      have hk := hk1
      have hb : (s[k].toNat : Int) = 116 := by rw [hop]; rfl
      clear hop hd
      go_enter Tryd.func93, Tryd.ntmps93
      go_wp2_with fail
      go_ret2
      exact ⟨rfl, rfl⟩
    | fls =>
      have hk := hk1
      have hb : (s[k].toNat : Int) = 102 := by rw [hop]; rfl
      clear hop hd
      go_enter Tryd.func93, Tryd.ntmps93
      go_wp2_with fail
      go_ret2
      exact ⟨rfl, rfl⟩
    | pr v =>
      have hb : (s[k].toNat : Int) = 80 := by rw [hop]; rfl
      have h1 := l2Var_big s (k + 1) v r ((k : Int) + 1) w hs (drop_add_of (p := [80]) (by simpa [Fm.text] using hd)) (by omega)
      have H1 := Lib.hid h1
      have hv3 : (v.val : Int) < 4 := by omega
      simp only [Fm.text, List.length_cons, List.length_nil] at hle
      clear hop hd h1
      go_enter Tryd.func93, Tryd.ntmps93
      go_wp2_with (go_at_call 76; refine (H1.out).mono ?_; rintro e w' ⟨rfl, rfl⟩)
      go_ret2
      exact ⟨ret_pair (by show Value.int .i64 _ = Value.int .i64 _; congr 1 <;> exact one_bit v) (by show Value.int .i64 _ = Value.int .i64 _; congr 1 <;> simp [Fm.text] <;> omega), rfl⟩
    | eq v u =>
      have hb : (s[k].toNat : Int) = 61 := by rw [hop]; rfl
      have h1 := l2Var_big s (k + 1) v (vb u :: r) ((k : Int) + 1) w hs (drop_add_of (p := [61]) (by simpa [Fm.text] using hd)) (by omega)
      have h2 := l2Var_big s (k + 2) u r ((k : Int) + 2) w hs (drop_add_of (p := [61, vb v]) (by simpa [Fm.text] using hd)) (by omega)
      have H1 := Lib.hid h1
      have H2 := Lib.hid h2
      have hv3 : (v.val : Int) < 4 := by omega
      have hu3 : (u.val : Int) < 4 := by omega
      simp only [Fm.text, List.length_cons, List.length_nil] at hle
      clear hop hd h1 h2
      go_enter Tryd.func93, Tryd.ntmps93
      go_wp2_with (first | (go_at_call 76; ((with_reducible refine (H1.out).mono ?_); rintro e w' ⟨rfl, rfl⟩)) | (go_at_call 76; ((with_reducible refine (H2.out).mono ?_); rintro e w' ⟨rfl, rfl⟩)))
      go_ret2
      exact ⟨ret_pair (by show Value.int .i64 _ = Value.int .i64 _; congr 1 <;> (rw [one_bit v]; exact or_bit _ u (bit_lt v))) (by show Value.int .i64 _ = Value.int .i64 _; congr 1 <;> simp [Fm.text] <;> omega), rfl⟩
    | rel v u =>
      have hb : (s[k].toNat : Int) = 69 := by rw [hop]; rfl
      have h1 := l2Var_big s (k + 1) v (vb u :: r) ((k : Int) + 1) w hs (drop_add_of (p := [69]) (by simpa [Fm.text] using hd)) (by omega)
      have h2 := l2Var_big s (k + 2) u r ((k : Int) + 2) w hs (drop_add_of (p := [69, vb v]) (by simpa [Fm.text] using hd)) (by omega)
      have H1 := Lib.hid h1
      have H2 := Lib.hid h2
      have hv3 : (v.val : Int) < 4 := by omega
      have hu3 : (u.val : Int) < 4 := by omega
      simp only [Fm.text, List.length_cons, List.length_nil] at hle
      clear hop hd h1 h2
      go_enter Tryd.func93, Tryd.ntmps93
      go_wp2_with (first | (go_at_call 76; ((with_reducible refine (H1.out).mono ?_); rintro e w' ⟨rfl, rfl⟩)) | (go_at_call 76; ((with_reducible refine (H2.out).mono ?_); rintro e w' ⟨rfl, rfl⟩)))
      go_ret2
      exact ⟨ret_pair (by show Value.int .i64 _ = Value.int .i64 _; congr 1 <;> (rw [one_bit v]; exact or_bit _ u (bit_lt v))) (by show Value.int .i64 _ = Value.int .i64 _; congr 1 <;> simp [Fm.text] <;> omega), rfl⟩
    | neg p =>
      have hb : (s[k].toNat : Int) = 33 := by rw [hop]; rfl
      simp only [Fm.text, List.length_cons] at hle
      have hcall := Ih.out p s (k + 1) r ((k : Int) + 1) w (by simp [Fm.size] at hn; omega) (at_one hd) hs (by omega)
      have Hcall := Lib.hid hcall
      clear hop hcall hd
      go_enter Tryd.func93, Tryd.ntmps93
      go_wp2_with (go_at_call 93; refine (Hcall.out).mono ?_; rintro e w' ⟨rfl, rfl⟩)
      go_ret2
      exact ⟨ret_pair (by show Value.int .i64 _ = Value.int .i64 _; congr 1) (by show Value.int .i64 _ = Value.int .i64 _; congr 1 <;> simp [Fm.text] <;> omega), rfl⟩
    | con p q =>
      have hb : (s[k].toNat : Int) = 38 := by rw [hop]; rfl
      simp only [Fm.text, List.length_cons, List.length_append] at hle
      obtain ⟨hd1, hd2⟩ := at_two hd
      have hcall := Ih.out p s (k + 1) _ ((k : Int) + 1) w (by simp [Fm.size] at hn; omega) hd1 hs (by omega)
      have hcall2 := Ih.out q s (k + 1 + p.text.length) _ ((k + 1 + p.text.length : Nat) : Int) w (by simp [Fm.size] at hn; omega) hd2 hs rfl
      have hq0 : ∀ w, Calls Tryd.prog 53 #[.int .u8 38] w fun e w' => e = .returned (.bool false) ∧ w = w' := fun w => l2Quant_calls 38 false rfl w
      have Hcall := Lib.hid hcall
      have Hcall2 := Lib.hid hcall2
      have Hq0 := Lib.hid hq0
      clear hop hcall hcall2 hd hd1 hd2 hq0
      go_enter Tryd.func93, Tryd.ntmps93
      go_upto_region 13 with (first | (go_at_call 53; refine (Hq0.out _).mono ?_; rintro e w' ⟨rfl, rfl⟩) | (go_at_call 93; refine (Hcall.out).mono ?_; rintro e w' ⟨rfl, rfl⟩))
      go_wp2_with (go_at_call 93; refine (Hcall2.out).mono ?_; rintro e w' ⟨rfl, rfl⟩)
      go_ret2
      exact ⟨ret_pair (by show Value.int .i64 _ = Value.int .i64 _; congr 1 <;> exact or_nat _ _ (freeBits_lt p) (freeBits_lt q)) (by show Value.int .i64 _ = Value.int .i64 _; congr 1 <;> simp [Fm.text] <;> omega), rfl⟩
    | dis p q =>
      have hb : (s[k].toNat : Int) = 124 := by rw [hop]; rfl
      simp only [Fm.text, List.length_cons, List.length_append] at hle
      obtain ⟨hd1, hd2⟩ := at_two hd
      have hcall := Ih.out p s (k + 1) _ ((k : Int) + 1) w (by simp [Fm.size] at hn; omega) hd1 hs (by omega)
      have hcall2 := Ih.out q s (k + 1 + p.text.length) _ ((k + 1 + p.text.length : Nat) : Int) w (by simp [Fm.size] at hn; omega) hd2 hs rfl
      have hq0 : ∀ w, Calls Tryd.prog 53 #[.int .u8 124] w fun e w' => e = .returned (.bool false) ∧ w = w' := fun w => l2Quant_calls 124 false rfl w
      have Hcall := Lib.hid hcall
      have Hcall2 := Lib.hid hcall2
      have Hq0 := Lib.hid hq0
      clear hop hcall hcall2 hd hd1 hd2 hq0
      go_enter Tryd.func93, Tryd.ntmps93
      go_upto_region 13 with (first | (go_at_call 53; refine (Hq0.out _).mono ?_; rintro e w' ⟨rfl, rfl⟩) | (go_at_call 93; refine (Hcall.out).mono ?_; rintro e w' ⟨rfl, rfl⟩))
      go_wp2_with (go_at_call 93; refine (Hcall2.out).mono ?_; rintro e w' ⟨rfl, rfl⟩)
      go_ret2
      exact ⟨ret_pair (by show Value.int .i64 _ = Value.int .i64 _; congr 1 <;> exact or_nat _ _ (freeBits_lt p) (freeBits_lt q)) (by show Value.int .i64 _ = Value.int .i64 _; congr 1 <;> simp [Fm.text] <;> omega), rfl⟩
    | qu q v p =>
      have hd1 := at_qu hd
      have hdv : s.data.toList.drop (k + 1) = vb v :: (p.text ++ r) := drop_add_of (p := [q.b]) (by simpa [Fm.text] using hd)
      have h1 := l2Var_big s (k + 1) v _ ((k : Int) + 1) w hs hdv (by omega)
      simp only [Fm.text, List.length_cons] at hle
      have hcall := Ih.out p s (k + 2) _ ((k : Int) + 2) w (by simp [Fm.size] at hn; omega) hd1 hs (by omega)
      have hv3 : (v.val : Int) < 4 := by omega
      have H1 := Lib.hid h1
      have Hcall := Lib.hid hcall
      clear hcall hd hd1 hdv h1
      cases q with
      | A =>
        have hb : (s[k].toNat : Int) = 65 := by rw [hop]; rfl
        have hq0 : ∀ w, Calls Tryd.prog 53 #[.int .u8 65] w fun e w' => e = .returned (.bool true) ∧ w = w' := fun w => l2Quant_calls 65 true rfl w
        have Hq0 := Lib.hid hq0
        clear hop hq0
        go_enter Tryd.func93, Tryd.ntmps93
        go_wp2_with (first | (go_at_call 53; refine (Hq0.out _).mono ?_; rintro e w' ⟨rfl, rfl⟩) | (go_at_call 93; refine (Hcall.out).mono ?_; rintro e w' ⟨rfl, rfl⟩) | (go_at_call 76; refine (H1.out).mono ?_; rintro e w' ⟨rfl, rfl⟩))
        go_ret2
        exact ⟨ret_pair (by show Value.int .i64 _ = Value.int .i64 _; congr 1 <;> exact andNot_bit _ v (freeBits_lt p)) (by show Value.int .i64 _ = Value.int .i64 _; congr 1 <;> simp [Fm.text] <;> omega), rfl⟩
      | S =>
        have hb : (s[k].toNat : Int) = 83 := by rw [hop]; rfl
        have hq0 : ∀ w, Calls Tryd.prog 53 #[.int .u8 83] w fun e w' => e = .returned (.bool true) ∧ w = w' := fun w => l2Quant_calls 83 true rfl w
        have Hq0 := Lib.hid hq0
        clear hop hq0
        go_enter Tryd.func93, Tryd.ntmps93
        go_wp2_with (first | (go_at_call 53; refine (Hq0.out _).mono ?_; rintro e w' ⟨rfl, rfl⟩) | (go_at_call 93; refine (Hcall.out).mono ?_; rintro e w' ⟨rfl, rfl⟩) | (go_at_call 76; refine (H1.out).mono ?_; rintro e w' ⟨rfl, rfl⟩))
        go_ret2
        exact ⟨ret_pair (by show Value.int .i64 _ = Value.int .i64 _; congr 1 <;> exact andNot_bit _ v (freeBits_lt p)) (by show Value.int .i64 _ = Value.int .i64 _; congr 1 <;> simp [Fm.text] <;> omega), rfl⟩
      | c2 =>
        have hb : (s[k].toNat : Int) = 50 := by rw [hop]; rfl
        have hq0 : ∀ w, Calls Tryd.prog 53 #[.int .u8 50] w fun e w' => e = .returned (.bool true) ∧ w = w' := fun w => l2Quant_calls 50 true rfl w
        have Hq0 := Lib.hid hq0
        clear hop hq0
        go_enter Tryd.func93, Tryd.ntmps93
        go_wp2_with (first | (go_at_call 53; refine (Hq0.out _).mono ?_; rintro e w' ⟨rfl, rfl⟩) | (go_at_call 93; refine (Hcall.out).mono ?_; rintro e w' ⟨rfl, rfl⟩) | (go_at_call 76; refine (H1.out).mono ?_; rintro e w' ⟨rfl, rfl⟩))
        go_ret2
        exact ⟨ret_pair (by show Value.int .i64 _ = Value.int .i64 _; congr 1 <;> exact andNot_bit _ v (freeBits_lt p)) (by show Value.int .i64 _ = Value.int .i64 _; congr 1 <;> simp [Fm.text] <;> omega), rfl⟩
      | c3 =>
        have hb : (s[k].toNat : Int) = 51 := by rw [hop]; rfl
        have hq0 : ∀ w, Calls Tryd.prog 53 #[.int .u8 51] w fun e w' => e = .returned (.bool true) ∧ w = w' := fun w => l2Quant_calls 51 true rfl w
        have Hq0 := Lib.hid hq0
        clear hop hq0
        go_enter Tryd.func93, Tryd.ntmps93
        go_wp2_with (first | (go_at_call 53; refine (Hq0.out _).mono ?_; rintro e w' ⟨rfl, rfl⟩) | (go_at_call 93; refine (Hcall.out).mono ?_; rintro e w' ⟨rfl, rfl⟩) | (go_at_call 76; refine (H1.out).mono ?_; rintro e w' ⟨rfl, rfl⟩))
        go_ret2
        exact ⟨ret_pair (by show Value.int .i64 _ = Value.int .i64 _; congr 1 <;> exact andNot_bit _ v (freeBits_lt p)) (by show Value.int .i64 _ = Value.int .i64 _; congr 1 <;> simp [Fm.text] <;> omega), rfl⟩
      | c4 =>
        have hb : (s[k].toNat : Int) = 52 := by rw [hop]; rfl
        have hq0 : ∀ w, Calls Tryd.prog 53 #[.int .u8 52] w fun e w' => e = .returned (.bool true) ∧ w = w' := fun w => l2Quant_calls 52 true rfl w
        have Hq0 := Lib.hid hq0
        clear hop hq0
        go_enter Tryd.func93, Tryd.ntmps93
        go_wp2_with (first | (go_at_call 53; refine (Hq0.out _).mono ?_; rintro e w' ⟨rfl, rfl⟩) | (go_at_call 93; refine (Hcall.out).mono ?_; rintro e w' ⟨rfl, rfl⟩) | (go_at_call 76; refine (H1.out).mono ?_; rintro e w' ⟨rfl, rfl⟩))
        go_ret2
        exact ⟨ret_pair (by show Value.int .i64 _ = Value.int .i64 _; congr 1 <;> exact andNot_bit _ v (freeBits_lt p)) (by show Value.int .i64 _ = Value.int .i64 _; congr 1 <;> simp [Fm.text] <;> omega), rfl⟩

end Go.Proofs.YtpaleogkgfclnaaDoor

namespace Go.Proofs.YtpaleogkgfclnaaDoor
open Go.RowKit
open Pl
set_option linter.unusedSimpArgs false
set_option linter.unusedVariables false

theorem own_zeroU (w : World) : (w.alloc (.cells #[] 5)).ownsRow w.heap.size 5 1 (.slice (some ⟨w.heap.size, 0, none⟩) 0 0) 0 [] :=
  ⟨rfl, .inr ⟨w.heap.size, 0, #[], rfl, Nat.le_refl _, heap_alloc_new w _, Nat.le_refl _, Nat.zero_le _, rfl, rfl⟩⟩
theorem app_oneU {w w1 : World} {v1 : Value} {n : Nat} {xs : List Value} (hown : w1.ownsRow w.heap.size 5 1 v1 (0 + n) ([] ++ xs)) (hg : (w.alloc (.cells #[] 5)).grownBy w1 (Value.ownBlock (.slice (some ⟨w.heap.size, 0, none⟩) 0 0))) :
    w1.ownsRow w.heap.size 5 1 v1 n xs ∧ Below w.heap.size w w1 := by
  refine ⟨by simpa using hown, ((Below.refl w.heap.size w).alloc (Nat.le_refl _) _).grown hg (by simp) (fun j hj => ?_)⟩
  simp [Value.ownBlock] at hj
  omega
theorem bytes_oneCell (l : List UInt8) : ∀ x ∈ l.map byteV, x.oneCell' = true := by
  intro x hx
  obtain ⟨y, _, rfl⟩ := List.mem_map.1 hx
  rfl
theorem rowU_news {w : World} {base g n cap : Nat} {bytes : List UInt8} (h : w.ownsRow base 5 1 (.slice (some ⟨g, 0, none⟩) n cap) n (bytes.map byteV)) : ∀ j x, (bytes.map byteV)[j]? = some x → w.cell? ((⟨g, 0, none⟩ : Addr).add j) = some x := by
  intro j x hj
  obtain ⟨a, c, e1, hl, hc⟩ := row_slice h
  have hjl : j < n := by
    have := (List.getElem?_eq_some_iff.1 hj).1
    omega
  injection e1 with e1 _ _
  obtain ⟨g', e2, h2⟩ := hc j hjl
  rw [← e1] at e2
  injection e2 with e2
  injection e2 with e2 _ _
  subst e2
  have e : ((⟨g, 0, none⟩ : Addr).add j) = ⟨g, j, none⟩ := by unfold Addr.add; split <;> simp_all
  rw [e, h2, hj]
theorem news_alloc {w : World} {o : Obj} {g j : Nat} {x : Value} (hg : g < w.heap.size) (h : w.cell? ((⟨g, 0, none⟩ : Addr).add j) = some x) : (w.alloc o).cell? ((⟨g, 0, none⟩ : Addr).add j) = some x := by
  have e : ((⟨g, 0, none⟩ : Addr).add j).block = g := by unfold Addr.add; split <;> rfl
  exact (World.cell?_of_block (w := w) (by rw [e]; exact Below.heap_alloc w o g hg)).trans h
theorem own_formU {w : World} {base n b : Nat} {v : Value} {v0 : Nat} {xs : List Value} (h : w.ownsRow base 5 1 v n xs) (hv : v.ownBlock = Value.ownBlock (.slice (some ⟨b, 0, none⟩) 0 0) ∨ v.ownBlock = some v0) : ∃ g cp, v = .slice (some ⟨g, 0, none⟩) n cp := by
  rcases h.2 with ⟨rfl, _⟩ | ⟨g, cp, _, rfl, _⟩
  · rcases hv with h | h <;> simp [Value.ownBlock] at h
  · exact ⟨g, cp, rfl⟩
theorem own_ge {w : World} {base g n cp : Nat} {e : TypeId} {xs : List Value} (h : w.ownsRow base e 1 (.slice (some ⟨g, 0, none⟩) n cp) n xs) : base ≤ g := by
  rcases h.2 with ⟨h, _⟩ | ⟨g', cp', _, h, hb, _⟩
  · cases h
  · injection h with h _ _
    injection h with h
    injection h with h _ _
    rw [h]; exact hb
theorem set_self {α : Type} {l : List α} {k : Nat} {x : α} (h : l[k]? = some x) : l.set k x = l := by
  apply List.ext_getElem?
  intro i
  by_cases e : i = k
  · subst e
    have hl := (List.getElem?_eq_some_iff.1 h).1
    rw [List.getElem?_set_self hl, h]
  · rw [List.getElem?_set_ne (Ne.symm e)]

set_option maxHeartbeats 4000000 in
set_option maxRecDepth 100000 in
theorem replace_calls (v u : Fin 4) (n : Nat) : ∀ (f : Fm) (b : Nat) (S : Nat → Prop) (w : World), f.size ≤ n → TreeIn S w f b → f.text.length ≤ 4000 →
    Calls Tryd.prog 50 #[kidV b, .int .u8 ((vb v).toNat : Nat), .int .u8 ((vb u).toNat : Nat)] w fun e w' => e = .returned (.string (bs (f.repl v u).text)) ∧ Below w.heap.size w w' := by
  obtain ⟨i0, hi, hz0, hz1, hz2⟩ := info_parts (P := Tryd.prog) (e := 5) (z := .int .u8 0) (size := 1) (bytes := 1) (by kernel_rfl)
  induction n with
  | zero => intro f b S w hn _ _; cases f <;> simp [Fm.size] at hn
  | succ n ih =>
    intro f b S w hn ht hl
    have Ht := Lib.hid ht
    have Ih := Lib.hid ih
    have hvl2 := vars_le f
    clear ih
    obtain ⟨ks0, vsv, psv0, hc0, hc1, hc2, _, _, hr1, _, _⟩ := node_cells ht
    rw [vars_bytes] at hr1
    cases hq : isQuB f.op with
    | true =>
      obtain ⟨x, hvx⟩ : ∃ x, f.vars = [x] := by
        cases f with
        | qu k y p => exact ⟨y, rfl⟩
        | _ => simp [Fm.op, isQuB] at hq
      have hvl : 0 < f.vars.length := by rw [hvx]; simp
      have Hr1 := Lib.hid hr1
      obtain ⟨g, cap, rfl, hcap, hcm, _, hglt, hcell⟩ := row_open hr1 hvl
      have hcx : w.cell? ⟨g, 0, none⟩ = some (.int .u8 ((vb x).toNat : Nat)) := by rw [hcell 0 hvl, hvx]; rfl
      have hvli : (0 : Int) < (f.vars.length : Int) := by omega
      by_cases hxv : x = v
      · subst hxv
        have hrp := repl_bound u hq (by rw [hvx]; rfl)
        have HT := Lib.hid (text_calls f.size f b S w (Nat.le_refl _) ht (by omega))
        have Hq := Lib.hid hq
        have Hrp := Lib.hid hrp
        clear hr1 hrp hq hvx hcell ht hc2
        go_enter Tryd.func50, Tryd.ntmps50
        go_wp2_with (first | (go_at_call 62; refine (isQuantifier_at f.op _ Hq.out _ _ hc0).mono ?_; rintro e w' ⟨rfl, rfl⟩) | (go_at_call 75; refine (HT.out).mono ?_; rintro e w' ⟨rfl, hb2⟩))
        go_ret
        refine ⟨?_, hb2⟩
        show Ending.returned (.string _) = .returned (.string _)
        rw [Hrp.out]
      · have hrp := repl_parts (f := f) (v := v) u (fun _ => by rw [hvx]; intro e; injection e with e; exact hxv e)
        have hxb : (((vb x).toNat : Int) == ((vb v).toNat : Int)) = false := by
          rw [beq_eq_false_iff_ne]
          intro e
          exact hxv (vb_inj (UInt8.toNat_inj.1 (by omega)))
        have Hq := Lib.hid hq
        have Hrp := Lib.hid hrp
        clear hr1 hrp hq hvx hcell ht hxv hc2
        go_enter Tryd.func50, Tryd.ntmps50
        go_upto_region 3 with (go_at_call 62; refine (isQuantifier_at f.op _ Hq.out _ _ hc0).mono ?_; rintro e w' ⟨rfl, rfl⟩)
        go_cut [7] (fun x wx => ∃ g cp, x = .slice (some ⟨g, 0, none⟩) f.vars.length cp ∧ wx.ownsRow w.heap.size 5 1 (.slice (some ⟨g, 0, none⟩) f.vars.length cp) f.vars.length ((f.vars.map vb).map byteV) ∧ Below w.heap.size w wx)
        case first =>
          have ha1 : (w.alloc (.cells #[] 5)).cell? ⟨b, 1, none⟩ = some (.slice (some ⟨g, 0, none⟩) f.vars.length cap) := (World.cell?_of_block (w := w) (Below.heap_alloc w _ b (World.block_lt_of_cell? w _ hc0))).trans hc1
          obtain ⟨hlt, hn1, hn2⟩ : g < w.heap.size ∧ True ∧ True := ⟨hglt, trivial, trivial⟩
          have Hnews := Lib.hid (rowU_news (bytes := f.vars.map vb) Hr1.out)
          clear hc0 hc1 hcx
          have Hnews2 := Lib.hid (fun j x hj => news_alloc (o := .cells #[] 5) hlt (Hnews.out j x hj))
          go_wp2_with (at_builtin; refine wpList_append_own_at _ rfl (.tmp 27) (.tmp 31) 22 rfl w.heap.size 5 i0 (.int .u8 0) 1 1 Tryd.underlying22 hi hz0 hz1 hz2 rfl (by decide) _ 0 [] rfl (own_zeroU w) ⟨g, 0, none⟩ f.vars.length cap ((f.vars.map vb).map byteV) rfl (by simp) (Hnews2.out) (bytes_oneCell _) (by unfold maxLen; omega) (by omega) (by simp) ?_; intro v5 w5 ho5 hg5 hn5 hat5; clear hn5; have A5 := Lib.hid (app_oneU ho5 hg5); have C5 := Lib.hid hat5; clear ho5 hg5 hat5)
          go_meet
          case rel =>
            obtain ⟨h1, h2⟩ := A5.out
            obtain ⟨g5, cp5, hv5⟩ := own_formU h1 C5.out
            subst hv5
            exact ⟨g5, cp5, rfl, h1, h2⟩
        case rest =>
          obtain ⟨g7, cp7, rfl, ho, hbc⟩ := hcut
          have O7 := Lib.hid ho
          have B7 := Lib.hid hbc
          clear ho hbc hc0 hc1 hcx hxb
          go_wp2_with fail
          go_loopg [35] f.vars.length (fun c iv wr => ∃ k : Nat, k + c = f.vars.length ∧ iv = .int .i64 (k : Nat) ∧ wr.ownsRow w.heap.size 5 1 (.slice (some ⟨g7, 0, none⟩) f.vars.length cp7) f.vars.length (((subTo v u f.vars k).map vb).map byteV) ∧ Below w.heap.size w wr)
          case atStart => exact ⟨0, by omega, rfl, by rw [subTo_zero]; exact O7.out, B7.out⟩
          case round =>
            clear O7 B7
            obtain ⟨k, hk, rfl, ho, hbl⟩ := hrel
            have O8 := Lib.hid ho
            have B8 := Lib.hid hbl
            clear ho hbl
            by_cases hlt : k < f.vars.length
            · obtain ⟨x, hx⟩ : ∃ x, x = f.vars[k] := ⟨_, rfl⟩
              have hcl : wr.cell? ⟨g7, k, none⟩ = some (.int .u8 ((vb x).toNat : Nat)) := by
                have h1 := O8.out.cellAt k (by omega)
                rw [List.getElem?_map, List.getElem?_map, subTo_at hlt, ← hx] at h1
                exact h1
              have hfz := O8.out.frozenAt k
              have Hx := Lib.hid hx
              have hli : (k : Int) < (f.vars.length : Int) := by omega
              clear hx
              by_cases he : x = v
              · subst he
                have Hst := Lib.hid (World.ownsRow.stored O8.out k (.int .u8 ((vb u).toNat : Nat))).1
                have B9 := Lib.hid (B8.out.setCell (p := ⟨g7, k, none⟩) (own_ge O8.out) (.int .u8 ((vb u).toNat : Nat)))
                go_wp2_with fail
                go_roundg (f.vars.length - k - 1)
                case rel => exact ⟨k + 1, by omega, by go_num, by
                  have h1 := Hst.out
                  rw [subTo_succ hlt, ← Hx.out, List.map_set, List.map_set, show subV x u x = u by simp [subV]]
                  exact h1, B9.out⟩
                case measure => omega
              · have heb : (((vb x).toNat : Int) == ((vb v).toNat : Int)) = false := by
                  rw [beq_eq_false_iff_ne]
                  intro e
                  exact he (vb_inj (UInt8.toNat_inj.1 (by omega)))
                have He := Lib.hid he
                clear he
                go_wp2_with fail
                go_roundg (f.vars.length - k - 1)
                case rel => exact ⟨k + 1, by omega, by go_num, by
                  rw [subTo_succ hlt, ← Hx.out, show subV v u x = x by simp [subV, He.out], set_self (by rw [subTo_at hlt, Hx.out])]
                  exact O8.out, B8.out⟩
                case measure => omega
            · obtain rfl : k = f.vars.length := by omega
              have hgk : gk = 0 := by omega
              subst hgk
              clear hlt hk
              obtain ⟨wo, hwo⟩ : ∃ x, x = wr := ⟨_, rfl⟩
              subst hwo
              obtain ⟨vs2, hvs2⟩ : ∃ vs2, vs2 = f.vars.map (subV v u) := ⟨_, rfl⟩
              have hvr : wo.ownsRow w.heap.size 5 1 (.slice (some ⟨g7, 0, none⟩) f.vars.length cp7) f.vars.length ((vs2.map vb).map byteV) := by have := O8.out; rwa [subTo_all, ← hvs2] at this
              have hvl4 : vs2.length ≤ 2 := by rw [hvs2]; simp; omega
              have Hvs2 := Lib.hid hvs2
              clear hvs2
              have ht2 := TreeIn.world Ht.out B8.out
              obtain ⟨ks, vsv2, psv, hc0, _, hc2, _, _, _, hr, hts⟩ := node_cells ht2
              have hcv1 : (convert 22 9 (.slice (some ⟨g7, 0, none⟩) f.vars.length cp7)).run Tryd.prog wo.drew = .ok (.string (bs (vs2.map vb))) wo.drew := conv_row (w := wo.drew) (base := w.heap.size) (n := f.vars.length) hvr
              have hcv2 : ∀ o, (convert 22 9 (.slice (some ⟨g7, 0, none⟩) f.vars.length cp7)).run Tryd.prog (wo.alloc o).drew = .ok (.string (bs (vs2.map vb))) (wo.alloc o).drew := fun o => conv_row (w := (wo.alloc o).drew) (base := w.heap.size) (n := f.vars.length) (ownsRow_world hvr ((Below.refl _ _).alloc (Nat.le_refl _) _).drew)
              have hcv3 : (convert 22 9 (.slice (some ⟨wo.heap.size, 0, none⟩) 1 1)).run Tryd.prog (wo.alloc (.cells #[.int .u8 f.op.toNat] 5)).drew = .ok (.string (bs [f.op])) (wo.alloc (.cells #[.int .u8 f.op.toNat] 5)).drew := conv_row (new_byte wo f.op)
              have hlb := World.block_lt_of_cell? wo _ hc0
              have ha0 : ∀ o, (wo.alloc o).cell? ⟨b, 0, none⟩ = some (.int .u8 f.op.toNat) := fun o => (World.cell?_of_block (w := wo) (Below.heap_alloc wo o b hlb)).trans hc0
              have hsz : (bs (vs2.map vb)).size ≤ 2 := by rw [bs_size]; simp; omega
              have hsz1 : (bs [f.op]).size ≤ 1 := by rw [bs_size]; simp
              have HrK := Lib.hid hr
              have HtsK := Lib.hid hts
              clear hvr ht2 hr hts
              go_upto_region 10 with (fail)
              go_cut [10] (fun s wx => s = .string (bs (f.op :: vs2.map vb)) ∧ Below w.heap.size w wx)
              case first =>
                go_region
                all_goals
                  go_wp2_with fail
                  go_meet
                  case rel => exact ⟨str_eq (append_bs _ _), (B8.out.alloc B8.out.size _).drew⟩
              case rest =>
                obtain ⟨rfl, hbc⟩ := hcut
                have Hbc := Lib.hid hbc
                have ht2 := TreeIn.world Ht.out hbc
                clear hc0 hc2 hcv1 hcv2 hcv3 hlb ha0 hsz hsz1 hbc HrK HtsK B8 O8
                obtain ⟨ks, vsv2, psv, hc0, _, hc2, _, _, _, hr, hts⟩ := node_cells ht2
                obtain ⟨a, cap, rfl, hkl, hrow⟩ := row_slice hr
                have hkl2 : ks.length = f.parts.length := hts.1
                have hp2 := parts_le f
                have hkl3 : ks.length ≤ 2 := by omega
                have Hrow := Lib.hid hrow
                have Hts := Lib.hid hts
                have Hkl := Lib.hid hkl2
                clear hrow hts hkl hkl2 hr ht2
                go_wp2_with fail
                go_loopg [10, 62] ks.length (fun c o i wr => ∃ k : Nat, k + c = ks.length ∧ i = .int .i64 k ∧ o = .string (bs (headT f (f.op :: vs2.map vb) (fun p => (p.repl v u).text) k)) ∧ Below wc.heap.size wc wr)
                case atStart => exact ⟨0, by omega, rfl, by rw [headT_zero], Below.refl _ _⟩
                case round =>
                  obtain ⟨k, hk, rfl, rfl, hbr⟩ := hrel
                  have Hbr := Lib.hid hbr
                  clear hbr
                  by_cases hlt : k < ks.length
                  · obtain ⟨g, rfl, hcell⟩ := Hrow.out k hlt
                    have hkf : k < f.parts.length := by rw [← Hkl.out]; exact hlt
                    have hcell1 : wc.cell? ⟨g, k, none⟩ = some (kidV ks[k]) := by rw [hcell, List.getElem?_map, List.getElem?_eq_getElem hlt]; rfl
                    have hcell2 : wr.cell? ⟨g, k, none⟩ = some (kidV ks[k]) := (Hbr.out.cell (World.block_lt_of_cell? wc _ hcell1)).trans hcell1
                    have hpk := (Hts.out.world Hbr.out).2 k f.parts[k] ks[k] (List.getElem?_eq_getElem hkf) (List.getElem?_eq_getElem hlt)
                    have hmem : f.parts[k] ∈ f.parts := List.getElem_mem hkf
                    have hsz := Fm.size_parts hmem
                    have hcall := Ih.out f.parts[k] ks[k] S wr (by omega) hpk (by have := part_text_le hmem; omega)
                    have Hcall := Lib.hid hcall
                    have hsnoc := headT_succ f (f.op :: vs2.map vb) (fun p => (p.repl v u).text) k hkf
                    have hs1 : (bs (f.parts[k].repl v u).text).size ≤ 8000 := by rw [bs_size]; have := part_text_le hmem; have := repl_len v u f.parts[k]; omega
                    have hs2 : (bs (headT f (f.op :: vs2.map vb) (fun p => (p.repl v u).text) k)).size ≤ 3 + 2 * 8000 := by rw [bs_size]; exact headT_len f (f.op :: vs2.map vb) (fun p => (p.repl v u).text) k 3 8000 (by simp; omega) (fun p hp => by have := part_text_le hp; have := repl_len v u p; show (p.repl v u).text.length ≤ 8000; omega)
                    have Hsnoc := Lib.hid hsnoc
                    clear hcell hcell1 hpk hmem hsz hcall hsnoc
                    go_wp2_with (go_at_call 50; refine (Hcall.out).mono ?_; rintro e w' ⟨rfl, hb2⟩)
                    go_roundg (gk - 1)
                    case rel => exact ⟨k + 1, by omega, by go_num, str_eq (by rw [append_bs, Hsnoc.out, bs_data, bs_data]), Hbr.out.trans (hb2.mono Hbr.out.size)⟩
                    case measure => omega
                  · have hk2 : k = ks.length := by omega
                    have htk := headT_all f (f.op :: vs2.map vb) (fun p => (p.repl v u).text) k (by rw [hk2, Hkl.out]; exact Nat.le_refl _)
                    have Htk := Lib.hid htk
                    clear htk hk2
                    go_wp2_with fail
                    go_ret
                    refine ⟨?_, Hbc.out.trans (Hbr.out.mono Hbc.out.size)⟩
                    show Ending.returned (.string _) = .returned (.string _)
                    rw [Hrp.out, Htk.out, ← Hvs2.out]
    | false =>
      have hrp := repl_parts (f := f) (v := v) u (fun h => by rw [hq] at h; cases h)
      have Hq := Lib.hid hq
      have Hrp := Lib.hid hrp
      have Hr1 := Lib.hid hr1
      clear hr1 hrp hq ht hc2
      go_enter Tryd.func50, Tryd.ntmps50
      go_upto_region 3 with (go_at_call 62; refine (isQuantifier_at f.op _ Hq.out _ _ hc0).mono ?_; rintro e w' ⟨rfl, rfl⟩)
      go_cut [7] (fun x wx => ∃ g cp, x = .slice (some ⟨g, 0, none⟩) f.vars.length cp ∧ wx.ownsRow w.heap.size 5 1 (.slice (some ⟨g, 0, none⟩) f.vars.length cp) f.vars.length ((f.vars.map vb).map byteV) ∧ Below w.heap.size w wx)
      case first =>
        have ha1 : (w.alloc (.cells #[] 5)).cell? ⟨b, 1, none⟩ = some vsv := (World.cell?_of_block (w := w) (Below.heap_alloc w _ b (World.block_lt_of_cell? w _ hc0))).trans hc1
        rcases Hr1.out.2 with ⟨rfl, hn0⟩ | ⟨g0, cap0, cur0, rfl, hg0, hb0, hn1, hn2, hcs, hxs⟩
        · have H0 := Lib.hid hn0
          clear hn0 hc0 hc1
          go_wp2_with (at_builtin; refine wpList_append_own_none rfl (.tmp 27) (.tmp 31) 22 rfl w.heap.size 5 i0 1 Tryd.underlying22 hi _ 0 [] rfl (own_zeroU w) rfl ?_)
          go_meet
          case rel =>
            have hv0 : f.vars = [] := List.eq_nil_of_length_eq_zero H0.out
            rw [hv0]
            exact ⟨_, _, rfl, own_zeroU w, (Below.refl _ _).alloc (Nat.le_refl _) _⟩
        · have Hnews := Lib.hid (rowU_news (bytes := f.vars.map vb) Hr1.out)
          have hlt : g0 < w.heap.size := block_lt hb0
          clear hcs hxs hb0 hc0 hc1
          have Hnews2 := Lib.hid (fun j x hj => news_alloc (o := .cells #[] 5) hlt (Hnews.out j x hj))
          go_wp2_with (at_builtin; refine wpList_append_own_at _ rfl (.tmp 27) (.tmp 31) 22 rfl w.heap.size 5 i0 (.int .u8 0) 1 1 Tryd.underlying22 hi hz0 hz1 hz2 rfl (by decide) _ 0 [] rfl (own_zeroU w) ⟨g0, 0, none⟩ f.vars.length cap0 ((f.vars.map vb).map byteV) rfl (by simp) (Hnews2.out) (bytes_oneCell _) (by unfold maxLen; omega) (by omega) (by simp) ?_; intro v5 w5 ho5 hg5 hn5 hat5; clear hn5; have A5 := Lib.hid (app_oneU ho5 hg5); have C5 := Lib.hid hat5; clear ho5 hg5 hat5)
          go_meet
          case rel =>
            obtain ⟨h1, h2⟩ := A5.out
            obtain ⟨g5, cp5, hv5⟩ := own_formU h1 C5.out
            subst hv5
            exact ⟨g5, cp5, rfl, h1, h2⟩
      case rest =>
        obtain ⟨g7, cp7, rfl, ho, hbc⟩ := hcut
        have O7 := Lib.hid ho
        have B7 := Lib.hid hbc
        clear ho hbc hc0 hc1
        go_wp2_with fail
        go_loopg [35] f.vars.length (fun c iv wr => ∃ k : Nat, k + c = f.vars.length ∧ iv = .int .i64 (k : Nat) ∧ wr.ownsRow w.heap.size 5 1 (.slice (some ⟨g7, 0, none⟩) f.vars.length cp7) f.vars.length (((subTo v u f.vars k).map vb).map byteV) ∧ Below w.heap.size w wr)
        case atStart => exact ⟨0, by omega, rfl, by rw [subTo_zero]; exact O7.out, B7.out⟩
        case round =>
          clear O7 B7
          obtain ⟨k, hk, rfl, ho, hbl⟩ := hrel
          have O8 := Lib.hid ho
          have B8 := Lib.hid hbl
          clear ho hbl
          by_cases hlt : k < f.vars.length
          · obtain ⟨x, hx⟩ : ∃ x, x = f.vars[k] := ⟨_, rfl⟩
            have hcl : wr.cell? ⟨g7, k, none⟩ = some (.int .u8 ((vb x).toNat : Nat)) := by
              have h1 := O8.out.cellAt k (by omega)
              rw [List.getElem?_map, List.getElem?_map, subTo_at hlt, ← hx] at h1
              exact h1
            have hfz := O8.out.frozenAt k
            have Hx := Lib.hid hx
            have hli : (k : Int) < (f.vars.length : Int) := by omega
            clear hx
            by_cases he : x = v
            · subst he
              have Hst := Lib.hid (World.ownsRow.stored O8.out k (.int .u8 ((vb u).toNat : Nat))).1
              have B9 := Lib.hid (B8.out.setCell (p := ⟨g7, k, none⟩) (own_ge O8.out) (.int .u8 ((vb u).toNat : Nat)))
              go_wp2_with fail
              go_roundg (f.vars.length - k - 1)
              case rel => exact ⟨k + 1, by omega, by go_num, by
                have h1 := Hst.out
                rw [subTo_succ hlt, ← Hx.out, List.map_set, List.map_set, show subV x u x = u by simp [subV]]
                exact h1, B9.out⟩
              case measure => omega
            · have heb : (((vb x).toNat : Int) == ((vb v).toNat : Int)) = false := by
                rw [beq_eq_false_iff_ne]
                intro e
                exact he (vb_inj (UInt8.toNat_inj.1 (by omega)))
              have He := Lib.hid he
              clear he
              go_wp2_with fail
              go_roundg (f.vars.length - k - 1)
              case rel => exact ⟨k + 1, by omega, by go_num, by
                rw [subTo_succ hlt, ← Hx.out, show subV v u x = x by simp [subV, He.out], set_self (by rw [subTo_at hlt, Hx.out])]
                exact O8.out, B8.out⟩
              case measure => omega
          · obtain rfl : k = f.vars.length := by omega
            have hgk : gk = 0 := by omega
            subst hgk
            clear hlt hk
            obtain ⟨wo, hwo⟩ : ∃ x, x = wr := ⟨_, rfl⟩
            subst hwo
            obtain ⟨vs2, hvs2⟩ : ∃ vs2, vs2 = f.vars.map (subV v u) := ⟨_, rfl⟩
            have hvr : wo.ownsRow w.heap.size 5 1 (.slice (some ⟨g7, 0, none⟩) f.vars.length cp7) f.vars.length ((vs2.map vb).map byteV) := by have := O8.out; rwa [subTo_all, ← hvs2] at this
            have hvl4 : vs2.length ≤ 2 := by rw [hvs2]; simp; omega
            have Hvs2 := Lib.hid hvs2
            clear hvs2
            have ht2 := TreeIn.world Ht.out B8.out
            obtain ⟨ks, vsv2, psv, hc0, _, hc2, _, _, _, hr, hts⟩ := node_cells ht2
            have hcv1 : (convert 22 9 (.slice (some ⟨g7, 0, none⟩) f.vars.length cp7)).run Tryd.prog wo.drew = .ok (.string (bs (vs2.map vb))) wo.drew := conv_row (w := wo.drew) (base := w.heap.size) (n := f.vars.length) hvr
            have hcv2 : ∀ o, (convert 22 9 (.slice (some ⟨g7, 0, none⟩) f.vars.length cp7)).run Tryd.prog (wo.alloc o).drew = .ok (.string (bs (vs2.map vb))) (wo.alloc o).drew := fun o => conv_row (w := (wo.alloc o).drew) (base := w.heap.size) (n := f.vars.length) (ownsRow_world hvr ((Below.refl _ _).alloc (Nat.le_refl _) _).drew)
            have hcv3 : (convert 22 9 (.slice (some ⟨wo.heap.size, 0, none⟩) 1 1)).run Tryd.prog (wo.alloc (.cells #[.int .u8 f.op.toNat] 5)).drew = .ok (.string (bs [f.op])) (wo.alloc (.cells #[.int .u8 f.op.toNat] 5)).drew := conv_row (new_byte wo f.op)
            have hlb := World.block_lt_of_cell? wo _ hc0
            have ha0 : ∀ o, (wo.alloc o).cell? ⟨b, 0, none⟩ = some (.int .u8 f.op.toNat) := fun o => (World.cell?_of_block (w := wo) (Below.heap_alloc wo o b hlb)).trans hc0
            have hsz : (bs (vs2.map vb)).size ≤ 2 := by rw [bs_size]; simp; omega
            have hsz1 : (bs [f.op]).size ≤ 1 := by rw [bs_size]; simp
            have HrK := Lib.hid hr
            have HtsK := Lib.hid hts
            clear hvr ht2 hr hts
            go_upto_region 10 with (fail)
            go_cut [10] (fun s wx => s = .string (bs (f.op :: vs2.map vb)) ∧ Below w.heap.size w wx)
            case first =>
              go_region
              all_goals
                go_wp2_with fail
                go_meet
                case rel => exact ⟨str_eq (append_bs _ _), (B8.out.alloc B8.out.size _).drew⟩
            case rest =>
              obtain ⟨rfl, hbc⟩ := hcut
              have Hbc := Lib.hid hbc
              have ht2 := TreeIn.world Ht.out hbc
              clear hc0 hc2 hcv1 hcv2 hcv3 hlb ha0 hsz hsz1 hbc HrK HtsK B8 O8
              obtain ⟨ks, vsv2, psv, hc0, _, hc2, _, _, _, hr, hts⟩ := node_cells ht2
              obtain ⟨a, cap, rfl, hkl, hrow⟩ := row_slice hr
              have hkl2 : ks.length = f.parts.length := hts.1
              have hp2 := parts_le f
              have hkl3 : ks.length ≤ 2 := by omega
              have Hrow := Lib.hid hrow
              have Hts := Lib.hid hts
              have Hkl := Lib.hid hkl2
              clear hrow hts hkl hkl2 hr ht2
              go_wp2_with fail
              go_loopg [10, 62] ks.length (fun c o i wr => ∃ k : Nat, k + c = ks.length ∧ i = .int .i64 k ∧ o = .string (bs (headT f (f.op :: vs2.map vb) (fun p => (p.repl v u).text) k)) ∧ Below wc.heap.size wc wr)
              case atStart => exact ⟨0, by omega, rfl, by rw [headT_zero], Below.refl _ _⟩
              case round =>
                obtain ⟨k, hk, rfl, rfl, hbr⟩ := hrel
                have Hbr := Lib.hid hbr
                clear hbr
                by_cases hlt : k < ks.length
                · obtain ⟨g, rfl, hcell⟩ := Hrow.out k hlt
                  have hkf : k < f.parts.length := by rw [← Hkl.out]; exact hlt
                  have hcell1 : wc.cell? ⟨g, k, none⟩ = some (kidV ks[k]) := by rw [hcell, List.getElem?_map, List.getElem?_eq_getElem hlt]; rfl
                  have hcell2 : wr.cell? ⟨g, k, none⟩ = some (kidV ks[k]) := (Hbr.out.cell (World.block_lt_of_cell? wc _ hcell1)).trans hcell1
                  have hpk := (Hts.out.world Hbr.out).2 k f.parts[k] ks[k] (List.getElem?_eq_getElem hkf) (List.getElem?_eq_getElem hlt)
                  have hmem : f.parts[k] ∈ f.parts := List.getElem_mem hkf
                  have hsz := Fm.size_parts hmem
                  have hcall := Ih.out f.parts[k] ks[k] S wr (by omega) hpk (by have := part_text_le hmem; omega)
                  have Hcall := Lib.hid hcall
                  have hsnoc := headT_succ f (f.op :: vs2.map vb) (fun p => (p.repl v u).text) k hkf
                  have hs1 : (bs (f.parts[k].repl v u).text).size ≤ 8000 := by rw [bs_size]; have := part_text_le hmem; have := repl_len v u f.parts[k]; omega
                  have hs2 : (bs (headT f (f.op :: vs2.map vb) (fun p => (p.repl v u).text) k)).size ≤ 3 + 2 * 8000 := by rw [bs_size]; exact headT_len f (f.op :: vs2.map vb) (fun p => (p.repl v u).text) k 3 8000 (by simp; omega) (fun p hp => by have := part_text_le hp; have := repl_len v u p; show (p.repl v u).text.length ≤ 8000; omega)
                  have Hsnoc := Lib.hid hsnoc
                  clear hcell hcell1 hpk hmem hsz hcall hsnoc
                  go_wp2_with (go_at_call 50; refine (Hcall.out).mono ?_; rintro e w' ⟨rfl, hb2⟩)
                  go_roundg (gk - 1)
                  case rel => exact ⟨k + 1, by omega, by go_num, str_eq (by rw [append_bs, Hsnoc.out, bs_data, bs_data]), Hbr.out.trans (hb2.mono Hbr.out.size)⟩
                  case measure => omega
                · have hk2 : k = ks.length := by omega
                  have htk := headT_all f (f.op :: vs2.map vb) (fun p => (p.repl v u).text) k (by rw [hk2, Hkl.out]; exact Nat.le_refl _)
                  have Htk := Lib.hid htk
                  clear htk hk2
                  go_wp2_with fail
                  go_ret
                  refine ⟨?_, Hbc.out.trans (Hbr.out.mono Hbc.out.size)⟩
                  show Ending.returned (.string _) = .returned (.string _)
                  rw [Hrp.out, Htk.out, ← Hvs2.out]

end Go.Proofs.YtpaleogkgfclnaaDoor

namespace Go.Proofs.YtpaleogkgfclnaaDoor
open Go.RowKit
open Pl
set_option linter.unusedSimpArgs false
set_option linter.unusedVariables false

theorem brow_make (w : World) (l : List UInt8) (n : Nat) (hn : l.length = n) : ∃ cap w', (convert 9 22 (.string (bs l))).run Tryd.prog w = .ok (.slice (some ⟨w.heap.size, 0, none⟩) n cap) w' ∧ BtRow w' w.heap.size l ∧ Below w.heap.size w w' := by
  have hr := run_bytes_of_string (P := Tryd.prog) w 9 22 5 (bs l) Tryd.underlying9 Tryd.underlying22 Tryd.underlying5
  have hz : (bs l).size = n := by rw [bs_size]; exact hn
  have h := BtRow.new w (bs l) (grownCap w (bs l).size 0 5)
  rw [bs_data] at h
  refine ⟨grownCap w (bs l).size 0 5, _, hr.trans ?_, h, ((Below.refl _ _).drew).alloc (Nat.le_refl _) _⟩
  rw [hz]

theorem ret_tri {a b c d e f : Value} (h1 : a = c) (h2 : b = d) (h3 : e = f := by rfl) : Ending.returned (.tuple #[a, b, e]) = .returned (.tuple #[c, d, f]) := by rw [h1, h2, h3]
theorem leaf_text {f : Fm} (h : f.parts = []) : f.text = f.op :: f.vars.map vb := by
  cases f <;> simp [Fm.parts] at h <;> rfl
theorem leaf_repl {f : Fm} (v u : Fin 4) (h : f.parts = []) (hq : isQuB f.op = false) : (f.repl v u).text = f.op :: (f.vars.map (subV v u)).map vb := by
  rw [repl_parts u (fun e => by rw [hq] at e; cases e), h]
  simp

set_option maxHeartbeats 4000000 in
set_option maxRecDepth 100000 in
theorem l2Rename_calls (v u : Fin 4) (n : Nat) : ∀ (f : Fm) (s : ByteArray) (k : Nat) (r : List UInt8) (m : Int) (w : World), f.size ≤ n → s.data.toList.drop k = f.text ++ r → s.size ≤ 1000000000 → f.allBits.testBit u.val = false → m = k →
    Calls Tryd.prog 78 #[.string s, .int .i64 m, .int .u8 (vb v).toNat, .int .u8 (vb u).toNat] w fun e w' => e = .returned (.tuple #[.string (bs (f.repl v u).text), .int .i64 (k + f.text.length : Nat), .bool true]) ∧ Below w.heap.size w w' := by
  induction n with
  | zero => intro f s k r m w hn; cases f <;> simp [Fm.size] at hn
  | succ n ih =>
    intro f s k r m w hn hd hs hu hm
    subst hm
    obtain ⟨hk1, hop, hle⟩ := at_op hd
    have hk := hk1
    have Ih := Lib.hid ih
    clear ih
    cases f with
    | tru =>
      have hk := hk1
      have hb : (s[k].toNat : Int) = 116 := by rw [hop]; rfl
      have hx := piece_eq hd (k + 1) (by simp [Fm.text])
      have hz := piece_size hd (k + 1) (by simp [Fm.text])
      have Hx := Lib.hid hx
      simp only [Fm.text, List.length_cons, List.length_nil] at hle hz
      clear hop hd hx
      go_enter Tryd.func78, Tryd.ntmps78
      go_wp2_with fail
      (first | go_ret2 | go_ret3)
      refine ⟨ret_tri (str_eq (eq_bs ?_)) (int_eq ?_), ?_⟩
      · simp [bs_data, Fm.repl, Fm.text, Hx.out]
      · simp [Fm.text] <;> omega
      · first
          | exact Below.refl _ _
          | exact below_drewN (Below.refl _ _) _
          | assumption
          | exact hb1.drew
          | exact (hb1.trans (hb2.mono hb1.size))
          | exact ((below_drewN (Below.refl _ _) _).trans hb1)
          | exact ((below_drewN (Below.refl _ _) _).trans (hb1.trans (hb2.mono hb1.size)))
    | fls =>
      have hk := hk1
      have hb : (s[k].toNat : Int) = 102 := by rw [hop]; rfl
      have hx := piece_eq hd (k + 1) (by simp [Fm.text])
      have hz := piece_size hd (k + 1) (by simp [Fm.text])
      have Hx := Lib.hid hx
      simp only [Fm.text, List.length_cons, List.length_nil] at hle hz
      clear hop hd hx
      go_enter Tryd.func78, Tryd.ntmps78
      go_wp2_with fail
      (first | go_ret2 | go_ret3)
      refine ⟨ret_tri (str_eq (eq_bs ?_)) (int_eq ?_), ?_⟩
      · simp [bs_data, Fm.repl, Fm.text, Hx.out]
      · simp [Fm.text] <;> omega
      · first
          | exact Below.refl _ _
          | exact below_drewN (Below.refl _ _) _
          | assumption
          | exact hb1.drew
          | exact (hb1.trans (hb2.mono hb1.size))
          | exact ((below_drewN (Below.refl _ _) _).trans hb1)
          | exact ((below_drewN (Below.refl _ _) _).trans (hb1.trans (hb2.mono hb1.size)))
    | pr a =>
      have hb : (s[k].toNat : Int) = 80 := by rw [hop]; rfl
      have hend : Calls Tryd.prog 51 #[.string s, .int .i64 k] w fun e w' => e = .returned (.int .i64 (endI s.data.toList k)) ∧ w = w' := l2End_calls s.size s k w (by omega) (by unfold maxLen; omega) (by omega)
      rw [endI_some hd, show k + (Fm.text (.pr a)).length = k + 2 from rfl] at hend
      have hq0 : ∀ w, Calls Tryd.prog 53 #[.int .u8 80] w fun e w' => e = .returned (.bool false) ∧ w = w' := fun w => l2Quant_calls 80 false rfl w
      have hx := piece_eq hd (k + 2) (by simp [Fm.text])
      have hz := piece_size hd (k + 2) (by simp [Fm.text])
      have hrt := leaf_repl (f := .pr a) v u rfl rfl
      have hlt := leaf_text (f := .pr a) rfl
      have hln : (Fm.text (.pr a)).length = 2 := rfl
      have hvl : (Fm.vars (.pr a)).length = 1 := rfl
      rw [hlt] at hx
      rw [hrt]
      rw [hln] at hz hle ⊢
      have hop2 : (Fm.op (.pr a)) = 80 := rfl
      rw [hop2] at hx ⊢
      have Hend := Lib.hid hend
      have Hx := Lib.hid hx
      have Hq0 := Lib.hid hq0
      clear hop hend hd hx hrt hlt hln hop2 hq0 hu hn
      generalize (Fm.vars (.pr a)) = vs at *
      obtain ⟨cap, wn, hcv, hbrw, hblw⟩ := brow_make w (80 :: vs.map vb) 2 (by simp; omega)
      rw [← Hx.out] at hcv
      have Hbrw := Lib.hid hbrw
      have Hblw := Lib.hid hblw
      obtain ⟨g, hg⟩ : ∃ g, g = w.heap.size := ⟨_, rfl⟩
      rw [← hg] at hcv
      have Hg := Lib.hid hg
      clear hbrw hblw hg
      go_enter Tryd.func78, Tryd.ntmps78
      go_wp2_with (first | (go_at_call 53; refine (Hq0.out _).mono ?_; rintro e w' ⟨rfl, rfl⟩) | (go_at_call 51; refine (Hend.out).mono ?_; rintro e w' ⟨rfl, rfl⟩))
      go_loopg [28] 1 (fun c iv wr => ∃ i : Nat, i + c = 2 ∧ 1 ≤ i ∧ iv = .int .i64 (i : Nat) ∧ BtRow wr g (80 :: (subTo v u vs (i - 1)).map vb) ∧ Below w.heap.size w wr)
      case atStart => exact ⟨1, by omega, by omega, rfl, by rw [show 1 - 1 = 0 from rfl, subTo_zero, Hg.out]; exact Hbrw.out, Hblw.out⟩
      case round =>
        obtain ⟨i, hi, hi1, rfl, hbr, hbl⟩ := hrel
        have Hbr := Lib.hid hbr
        have Hbl := Lib.hid hbl
        clear hbr hbl Hbrw Hblw hcv
        by_cases hlt : i < 2
        · obtain ⟨j, hj⟩ : ∃ j, i = j + 1 := ⟨i - 1, by omega⟩
          have hjv : j < vs.length := by omega
          have hb0 : BtRow wr g (80 :: (subTo v u vs j).map vb) := by have := Hbr.out; rwa [hj, Nat.add_sub_cancel] at this
          have hcl : wr.cell? ⟨g, i, none⟩ = some (.int .u8 ((vb vs[j]).toNat : Nat)) := by rw [hj]; exact brow_at hb0 hjv
          have hfz : wr.frozen? ⟨g, i, none⟩ = false := by rw [hj]; exact hb0.frozen (by simp [subTo_len]; exact hjv)
          obtain ⟨x, hx⟩ : ∃ x, x = vs[j] := ⟨_, rfl⟩
          rw [← hx] at hcl
          have Hx2 := Lib.hid hx
          have Hj := Lib.hid hj
          have Hb0 := Lib.hid hb0
          clear hx hj hb0
          by_cases he : x = v
          · subst he
            have Hst := Lib.hid (Hb0.out.set (j + 1) (vb u))
            have B9 := Lib.hid (Hbl.out.setCell (p := ⟨g, i, none⟩) (by rw [← Hg.out]; exact Nat.le_refl _) (.int .u8 ((vb u).toNat : Nat)))
            go_wp2_with fail
            go_roundg (1 - i)
            case rel => exact ⟨i + 1, by omega, by omega, by go_num, by
              have h1 := Hst.out
              rw [Nat.add_sub_cancel, Hj.out, subTo_succ hjv, ← Hx2.out, List.map_set, show subV x u x = u by simp [subV]]
              exact h1, B9.out⟩
            case measure => omega
          · have heb : (((vb x).toNat : Int) == ((vb v).toNat : Int)) = false := by
              rw [beq_eq_false_iff_ne]
              intro e
              exact he (vb_inj (UInt8.toNat_inj.1 (by omega)))
            have He := Lib.hid he
            clear he
            go_wp2_with fail
            go_roundg (1 - i)
            case rel => exact ⟨i + 1, by omega, by omega, by go_num, by
              rw [Nat.add_sub_cancel, Hj.out, subTo_succ hjv, ← Hx2.out, show subV v u x = x by simp [subV, He.out], set_self (by rw [subTo_at hjv, Hx2.out])]
              exact Hb0.out, Hbl.out⟩
            case measure => omega
        · obtain rfl : i = 2 := by omega
          have hall : BtRow wr g (80 :: (vs.map (subV v u)).map vb) := by have := Hbr.out; rwa [show 2 - 1 = vs.length by omega, subTo_all] at this
          have hcb := fun cp => hall.conv (cap := cp) (n := 2) (by simp; omega)
          clear hall
          go_wp2_with fail
          (first | go_ret2 | go_ret3)
          exact ⟨ret_tri (str_eq (eq_bs (by simp [bs_data]))) (int_eq (by omega)), Hbl.out⟩
    | eq a c =>
      have hb : (s[k].toNat : Int) = 61 := by rw [hop]; rfl
      have hend : Calls Tryd.prog 51 #[.string s, .int .i64 k] w fun e w' => e = .returned (.int .i64 (endI s.data.toList k)) ∧ w = w' := l2End_calls s.size s k w (by omega) (by unfold maxLen; omega) (by omega)
      rw [endI_some hd, show k + (Fm.text (.eq a c)).length = k + 3 from rfl] at hend
      have hq0 : ∀ w, Calls Tryd.prog 53 #[.int .u8 61] w fun e w' => e = .returned (.bool false) ∧ w = w' := fun w => l2Quant_calls 61 false rfl w
      have hx := piece_eq hd (k + 3) (by simp [Fm.text])
      have hz := piece_size hd (k + 3) (by simp [Fm.text])
      have hrt := leaf_repl (f := .eq a c) v u rfl rfl
      have hlt := leaf_text (f := .eq a c) rfl
      have hln : (Fm.text (.eq a c)).length = 3 := rfl
      have hvl : (Fm.vars (.eq a c)).length = 2 := rfl
      rw [hlt] at hx
      rw [hrt]
      rw [hln] at hz hle ⊢
      have hop2 : (Fm.op (.eq a c)) = 61 := rfl
      rw [hop2] at hx ⊢
      have Hend := Lib.hid hend
      have Hx := Lib.hid hx
      have Hq0 := Lib.hid hq0
      clear hop hend hd hx hrt hlt hln hop2 hq0 hu hn
      generalize (Fm.vars (.eq a c)) = vs at *
      obtain ⟨cap, wn, hcv, hbrw, hblw⟩ := brow_make w (61 :: vs.map vb) 3 (by simp; omega)
      rw [← Hx.out] at hcv
      have Hbrw := Lib.hid hbrw
      have Hblw := Lib.hid hblw
      obtain ⟨g, hg⟩ : ∃ g, g = w.heap.size := ⟨_, rfl⟩
      rw [← hg] at hcv
      have Hg := Lib.hid hg
      clear hbrw hblw hg
      go_enter Tryd.func78, Tryd.ntmps78
      go_wp2_with (first | (go_at_call 53; refine (Hq0.out _).mono ?_; rintro e w' ⟨rfl, rfl⟩) | (go_at_call 51; refine (Hend.out).mono ?_; rintro e w' ⟨rfl, rfl⟩))
      go_loopg [28] 2 (fun c iv wr => ∃ i : Nat, i + c = 3 ∧ 1 ≤ i ∧ iv = .int .i64 (i : Nat) ∧ BtRow wr g (61 :: (subTo v u vs (i - 1)).map vb) ∧ Below w.heap.size w wr)
      case atStart => exact ⟨1, by omega, by omega, rfl, by rw [show 1 - 1 = 0 from rfl, subTo_zero, Hg.out]; exact Hbrw.out, Hblw.out⟩
      case round =>
        obtain ⟨i, hi, hi1, rfl, hbr, hbl⟩ := hrel
        have Hbr := Lib.hid hbr
        have Hbl := Lib.hid hbl
        clear hbr hbl Hbrw Hblw hcv
        by_cases hlt : i < 3
        · obtain ⟨j, hj⟩ : ∃ j, i = j + 1 := ⟨i - 1, by omega⟩
          have hjv : j < vs.length := by omega
          have hb0 : BtRow wr g (61 :: (subTo v u vs j).map vb) := by have := Hbr.out; rwa [hj, Nat.add_sub_cancel] at this
          have hcl : wr.cell? ⟨g, i, none⟩ = some (.int .u8 ((vb vs[j]).toNat : Nat)) := by rw [hj]; exact brow_at hb0 hjv
          have hfz : wr.frozen? ⟨g, i, none⟩ = false := by rw [hj]; exact hb0.frozen (by simp [subTo_len]; exact hjv)
          obtain ⟨x, hx⟩ : ∃ x, x = vs[j] := ⟨_, rfl⟩
          rw [← hx] at hcl
          have Hx2 := Lib.hid hx
          have Hj := Lib.hid hj
          have Hb0 := Lib.hid hb0
          clear hx hj hb0
          by_cases he : x = v
          · subst he
            have Hst := Lib.hid (Hb0.out.set (j + 1) (vb u))
            have B9 := Lib.hid (Hbl.out.setCell (p := ⟨g, i, none⟩) (by rw [← Hg.out]; exact Nat.le_refl _) (.int .u8 ((vb u).toNat : Nat)))
            go_wp2_with fail
            go_roundg (2 - i)
            case rel => exact ⟨i + 1, by omega, by omega, by go_num, by
              have h1 := Hst.out
              rw [Nat.add_sub_cancel, Hj.out, subTo_succ hjv, ← Hx2.out, List.map_set, show subV x u x = u by simp [subV]]
              exact h1, B9.out⟩
            case measure => omega
          · have heb : (((vb x).toNat : Int) == ((vb v).toNat : Int)) = false := by
              rw [beq_eq_false_iff_ne]
              intro e
              exact he (vb_inj (UInt8.toNat_inj.1 (by omega)))
            have He := Lib.hid he
            clear he
            go_wp2_with fail
            go_roundg (2 - i)
            case rel => exact ⟨i + 1, by omega, by omega, by go_num, by
              rw [Nat.add_sub_cancel, Hj.out, subTo_succ hjv, ← Hx2.out, show subV v u x = x by simp [subV, He.out], set_self (by rw [subTo_at hjv, Hx2.out])]
              exact Hb0.out, Hbl.out⟩
            case measure => omega
        · obtain rfl : i = 3 := by omega
          have hall : BtRow wr g (61 :: (vs.map (subV v u)).map vb) := by have := Hbr.out; rwa [show 3 - 1 = vs.length by omega, subTo_all] at this
          have hcb := fun cp => hall.conv (cap := cp) (n := 3) (by simp; omega)
          clear hall
          go_wp2_with fail
          (first | go_ret2 | go_ret3)
          exact ⟨ret_tri (str_eq (eq_bs (by simp [bs_data]))) (int_eq (by omega)), Hbl.out⟩
    | rel a c =>
      have hb : (s[k].toNat : Int) = 69 := by rw [hop]; rfl
      have hend : Calls Tryd.prog 51 #[.string s, .int .i64 k] w fun e w' => e = .returned (.int .i64 (endI s.data.toList k)) ∧ w = w' := l2End_calls s.size s k w (by omega) (by unfold maxLen; omega) (by omega)
      rw [endI_some hd, show k + (Fm.text (.rel a c)).length = k + 3 from rfl] at hend
      have hq0 : ∀ w, Calls Tryd.prog 53 #[.int .u8 69] w fun e w' => e = .returned (.bool false) ∧ w = w' := fun w => l2Quant_calls 69 false rfl w
      have hx := piece_eq hd (k + 3) (by simp [Fm.text])
      have hz := piece_size hd (k + 3) (by simp [Fm.text])
      have hrt := leaf_repl (f := .rel a c) v u rfl rfl
      have hlt := leaf_text (f := .rel a c) rfl
      have hln : (Fm.text (.rel a c)).length = 3 := rfl
      have hvl : (Fm.vars (.rel a c)).length = 2 := rfl
      rw [hlt] at hx
      rw [hrt]
      rw [hln] at hz hle ⊢
      have hop2 : (Fm.op (.rel a c)) = 69 := rfl
      rw [hop2] at hx ⊢
      have Hend := Lib.hid hend
      have Hx := Lib.hid hx
      have Hq0 := Lib.hid hq0
      clear hop hend hd hx hrt hlt hln hop2 hq0 hu hn
      generalize (Fm.vars (.rel a c)) = vs at *
      obtain ⟨cap, wn, hcv, hbrw, hblw⟩ := brow_make w (69 :: vs.map vb) 3 (by simp; omega)
      rw [← Hx.out] at hcv
      have Hbrw := Lib.hid hbrw
      have Hblw := Lib.hid hblw
      obtain ⟨g, hg⟩ : ∃ g, g = w.heap.size := ⟨_, rfl⟩
      rw [← hg] at hcv
      have Hg := Lib.hid hg
      clear hbrw hblw hg
      go_enter Tryd.func78, Tryd.ntmps78
      go_wp2_with (first | (go_at_call 53; refine (Hq0.out _).mono ?_; rintro e w' ⟨rfl, rfl⟩) | (go_at_call 51; refine (Hend.out).mono ?_; rintro e w' ⟨rfl, rfl⟩))
      go_loopg [28] 2 (fun c iv wr => ∃ i : Nat, i + c = 3 ∧ 1 ≤ i ∧ iv = .int .i64 (i : Nat) ∧ BtRow wr g (69 :: (subTo v u vs (i - 1)).map vb) ∧ Below w.heap.size w wr)
      case atStart => exact ⟨1, by omega, by omega, rfl, by rw [show 1 - 1 = 0 from rfl, subTo_zero, Hg.out]; exact Hbrw.out, Hblw.out⟩
      case round =>
        obtain ⟨i, hi, hi1, rfl, hbr, hbl⟩ := hrel
        have Hbr := Lib.hid hbr
        have Hbl := Lib.hid hbl
        clear hbr hbl Hbrw Hblw hcv
        by_cases hlt : i < 3
        · obtain ⟨j, hj⟩ : ∃ j, i = j + 1 := ⟨i - 1, by omega⟩
          have hjv : j < vs.length := by omega
          have hb0 : BtRow wr g (69 :: (subTo v u vs j).map vb) := by have := Hbr.out; rwa [hj, Nat.add_sub_cancel] at this
          have hcl : wr.cell? ⟨g, i, none⟩ = some (.int .u8 ((vb vs[j]).toNat : Nat)) := by rw [hj]; exact brow_at hb0 hjv
          have hfz : wr.frozen? ⟨g, i, none⟩ = false := by rw [hj]; exact hb0.frozen (by simp [subTo_len]; exact hjv)
          obtain ⟨x, hx⟩ : ∃ x, x = vs[j] := ⟨_, rfl⟩
          rw [← hx] at hcl
          have Hx2 := Lib.hid hx
          have Hj := Lib.hid hj
          have Hb0 := Lib.hid hb0
          clear hx hj hb0
          by_cases he : x = v
          · subst he
            have Hst := Lib.hid (Hb0.out.set (j + 1) (vb u))
            have B9 := Lib.hid (Hbl.out.setCell (p := ⟨g, i, none⟩) (by rw [← Hg.out]; exact Nat.le_refl _) (.int .u8 ((vb u).toNat : Nat)))
            go_wp2_with fail
            go_roundg (2 - i)
            case rel => exact ⟨i + 1, by omega, by omega, by go_num, by
              have h1 := Hst.out
              rw [Nat.add_sub_cancel, Hj.out, subTo_succ hjv, ← Hx2.out, List.map_set, show subV x u x = u by simp [subV]]
              exact h1, B9.out⟩
            case measure => omega
          · have heb : (((vb x).toNat : Int) == ((vb v).toNat : Int)) = false := by
              rw [beq_eq_false_iff_ne]
              intro e
              exact he (vb_inj (UInt8.toNat_inj.1 (by omega)))
            have He := Lib.hid he
            clear he
            go_wp2_with fail
            go_roundg (2 - i)
            case rel => exact ⟨i + 1, by omega, by omega, by go_num, by
              rw [Nat.add_sub_cancel, Hj.out, subTo_succ hjv, ← Hx2.out, show subV v u x = x by simp [subV, He.out], set_self (by rw [subTo_at hjv, Hx2.out])]
              exact Hb0.out, Hbl.out⟩
            case measure => omega
        · obtain rfl : i = 3 := by omega
          have hall : BtRow wr g (69 :: (vs.map (subV v u)).map vb) := by have := Hbr.out; rwa [show 3 - 1 = vs.length by omega, subTo_all] at this
          have hcb := fun cp => hall.conv (cap := cp) (n := 3) (by simp; omega)
          clear hall
          go_wp2_with fail
          (first | go_ret2 | go_ret3)
          exact ⟨ret_tri (str_eq (eq_bs (by simp [bs_data]))) (int_eq (by omega)), Hbl.out⟩
    | neg p =>
      have hb : (s[k].toNat : Int) = 33 := by rw [hop]; rfl
      have hcall := Ih.out p s (k + 1) r ((k : Int) + 1) w (by simp [Fm.size] at hn; omega) (at_one hd) hs (by simpa [Fm.allBits] using hu) (by omega)
      have Hcall := Lib.hid hcall
      have hp1 : (bs (p.repl v u).text).size ≤ 1000000000 := by rw [bs_size, repl_len]; have := hle; simp only [Fm.text, List.length_cons] at this; omega
      simp only [Fm.text, List.length_cons] at hle
      clear hop hcall hd hu
      go_enter Tryd.func78, Tryd.ntmps78
      go_wp2_with (go_at_call 78; refine (Hcall.out).mono ?_; rintro e w1 ⟨rfl, hb1⟩)
      (first | go_ret2 | go_ret3)
      refine ⟨ret_tri (str_eq (eq_bs ?_)) (int_eq ?_), ?_⟩
      · simp [bs_data, Fm.repl, Fm.text]
      · simp [Fm.text] <;> omega
      · first
          | exact Below.refl _ _
          | exact below_drewN (Below.refl _ _) _
          | assumption
          | exact hb1.drew
          | exact (hb1.trans (hb2.mono hb1.size))
          | exact ((below_drewN (Below.refl _ _) _).trans hb1)
          | exact ((below_drewN (Below.refl _ _) _).trans (hb1.trans (hb2.mono hb1.size)))
    | con p q =>
      have hb : (s[k].toNat : Int) = 38 := by rw [hop]; rfl
      obtain ⟨hd1, hd2⟩ := at_two hd
      have hup : p.allBits.testBit u.val = false ∧ q.allBits.testBit u.val = false := by simpa [Fm.allBits, Nat.testBit_or] using hu
      have hcall := fun w => Ih.out p s (k + 1) _ ((k : Int) + 1) w (by simp [Fm.size] at hn; omega) hd1 hs hup.1 (by omega)
      have hcall2 := fun w => Ih.out q s (k + 1 + p.text.length) _ ((k + 1 + p.text.length : Nat) : Int) w (by simp [Fm.size] at hn; omega) hd2 hs hup.2 rfl
      have hx := piece_eq (show s.data.toList.drop k = [38] ++ (p.text ++ q.text ++ r) by rw [hd]; simp [Fm.text]) (k + 1) rfl
      have hz := piece_size (show s.data.toList.drop k = [38] ++ (p.text ++ q.text ++ r) by rw [hd]; simp [Fm.text]) (k + 1) rfl
      have Hcall := Lib.hid hcall
      have Hcall2 := Lib.hid hcall2
      have Hx := Lib.hid hx
      simp only [Fm.text, List.length_cons, List.length_append, List.length_nil] at hle hz
      have hp1 : (bs (p.repl v u).text).size ≤ 1000000000 := by rw [bs_size, repl_len]; omega
      have hq1 : (bs (q.repl v u).text).size ≤ 1000000000 := by rw [bs_size, repl_len]; omega
      clear hop hcall hcall2 hd hd1 hd2 hx hu hup
      go_enter Tryd.func78, Tryd.ntmps78
      go_upto_region 8 with (go_at_call 78; refine (Hcall.out _).mono ?_; rintro e w1 ⟨rfl, hb1⟩)
      go_wp2_with (go_at_call 78; refine (Hcall2.out _).mono ?_; rintro e w2 ⟨rfl, hb2⟩)
      (first | go_ret2 | go_ret3)
      refine ⟨ret_tri (str_eq (eq_bs ?_)) (int_eq ?_), ?_⟩
      · simp [bs_data, Fm.repl, Fm.text, Hx.out]
      · simp [Fm.text] <;> omega
      · first
          | exact Below.refl _ _
          | exact below_drewN (Below.refl _ _) _
          | assumption
          | exact hb1.drew
          | exact (hb1.trans (hb2.mono hb1.size))
          | exact ((below_drewN (Below.refl _ _) _).trans hb1)
          | exact ((below_drewN (Below.refl _ _) _).trans (hb1.trans (hb2.mono hb1.size)))
    | dis p q =>
      have hb : (s[k].toNat : Int) = 124 := by rw [hop]; rfl
      obtain ⟨hd1, hd2⟩ := at_two hd
      have hup : p.allBits.testBit u.val = false ∧ q.allBits.testBit u.val = false := by simpa [Fm.allBits, Nat.testBit_or] using hu
      have hcall := fun w => Ih.out p s (k + 1) _ ((k : Int) + 1) w (by simp [Fm.size] at hn; omega) hd1 hs hup.1 (by omega)
      have hcall2 := fun w => Ih.out q s (k + 1 + p.text.length) _ ((k + 1 + p.text.length : Nat) : Int) w (by simp [Fm.size] at hn; omega) hd2 hs hup.2 rfl
      have hx := piece_eq (show s.data.toList.drop k = [124] ++ (p.text ++ q.text ++ r) by rw [hd]; simp [Fm.text]) (k + 1) rfl
      have hz := piece_size (show s.data.toList.drop k = [124] ++ (p.text ++ q.text ++ r) by rw [hd]; simp [Fm.text]) (k + 1) rfl
      have Hcall := Lib.hid hcall
      have Hcall2 := Lib.hid hcall2
      have Hx := Lib.hid hx
      simp only [Fm.text, List.length_cons, List.length_append, List.length_nil] at hle hz
      have hp1 : (bs (p.repl v u).text).size ≤ 1000000000 := by rw [bs_size, repl_len]; omega
      have hq1 : (bs (q.repl v u).text).size ≤ 1000000000 := by rw [bs_size, repl_len]; omega
      clear hop hcall hcall2 hd hd1 hd2 hx hu hup
      go_enter Tryd.func78, Tryd.ntmps78
      go_upto_region 8 with (go_at_call 78; refine (Hcall.out _).mono ?_; rintro e w1 ⟨rfl, hb1⟩)
      go_wp2_with (go_at_call 78; refine (Hcall2.out _).mono ?_; rintro e w2 ⟨rfl, hb2⟩)
      (first | go_ret2 | go_ret3)
      refine ⟨ret_tri (str_eq (eq_bs ?_)) (int_eq ?_), ?_⟩
      · simp [bs_data, Fm.repl, Fm.text, Hx.out]
      · simp [Fm.text] <;> omega
      · first
          | exact Below.refl _ _
          | exact below_drewN (Below.refl _ _) _
          | assumption
          | exact hb1.drew
          | exact (hb1.trans (hb2.mono hb1.size))
          | exact ((below_drewN (Below.refl _ _) _).trans hb1)
          | exact ((below_drewN (Below.refl _ _) _).trans (hb1.trans (hb2.mono hb1.size)))
    | qu q x p =>
      have hd1 := at_qu hd
      have hdx : s.data.toList.drop (k + 1) = vb x :: (p.text ++ r) := drop_add_of (p := [q.b]) (by simpa [Fm.text] using hd)
      have hup : p.allBits.testBit u.val = false ∧ x ≠ u := by
        have h1 := hu
        simp only [Fm.allBits, Nat.testBit_or, Bool.or_eq_false_iff] at h1
        refine ⟨h1.2, fun e => ?_⟩
        rw [e] at h1
        have h2 := h1.1
        rw [bit_one u u] at h2
        simp at h2
      have hcall := Ih.out p s (k + 2) _ ((k : Int) + 2) w (by simp [Fm.size] at hn; omega) hd1 hs hup.1 (by omega)
      have hfree := fun w => l2Free_big p.size p s (k + 2) _ ((k : Int) + 2) w (Nat.le_refl _) hd1 hs (by omega)
      have hend : Calls Tryd.prog 51 #[.string s, .int .i64 k] w fun e w' => e = .returned (.int .i64 (endI s.data.toList k)) ∧ w = w' := l2End_calls s.size s k w (by omega) (by unfold maxLen; omega) (by omega)
      rw [endI_some hd] at hend
      have hx := piece_eq hd (k + (Fm.text (.qu q x p)).length) rfl
      have hz := piece_size hd (k + (Fm.text (.qu q x p)).length) rfl
      have hu2 := piece_eq (show s.data.toList.drop k = [q.b, vb x] ++ (p.text ++ r) by rw [hd]; simp [Fm.text]) (k + 2) rfl
      have huz := piece_size (show s.data.toList.drop k = [q.b, vb x] ++ (p.text ++ r) by rw [hd]; simp [Fm.text]) (k + 2) rfl
      have hk2 : k + 1 < s.size := by have := hle; simp only [Fm.text, List.length_cons] at this; omega
      have hxb : (s[k + 1].toNat : Int) = ((vb x).toNat : Nat) := by
        have h1 := drop_at hk2
        rw [hdx] at h1
        rw [← (List.cons.inj h1).1]
      have hrp : (bs (p.repl v u).text).size ≤ 1000000000 := by rw [bs_size, repl_len]; have := hle; simp only [Fm.text, List.length_cons] at this; omega
      have hxu : (((vb x).toNat : Int) == ((vb u).toNat : Int)) = false := by
        rw [beq_eq_false_iff_ne]
        intro e
        exact hup.2 (vb_inj (UInt8.toNat_inj.1 (by omega)))
      have hxu2 : (((vb x).toNat : Int) != ((vb u).toNat : Int)) = true := by rw [bne, hxu]; rfl
      obtain ⟨T, hT⟩ : ∃ T, T = (Fm.text (.qu q x p)).length := ⟨_, rfl⟩
      rw [← hT] at hend hx hz hle ⊢
      have hT2 : T = p.text.length + 2 := by rw [hT]; simp [Fm.text]
      have HT := Lib.hid hT
      have Hcall := Lib.hid hcall
      have Hfree := Lib.hid hfree
      have Hend := Lib.hid hend
      have Hx := Lib.hid hx
      have Hu2 := Lib.hid hu2
      simp only [List.length_cons, List.length_nil] at huz
      clear hcall hfree hend hd hd1 hdx hx hu hup hu2 hT hn
      cases q with
      | A =>
        have hb : (s[k].toNat : Int) = 65 := by rw [hop]; rfl
        have hq0 : ∀ w, Calls Tryd.prog 53 #[.int .u8 65] w fun e w' => e = .returned (.bool true) ∧ w = w' := fun w => l2Quant_calls 65 true rfl w
        have Hq0 := Lib.hid hq0
        clear hop hq0
        by_cases he : x = v
        · have hev : (((vb x).toNat : Int) == ((vb v).toNat : Int)) = true := by rw [he]; exact beq_self_eq_true _
          have He := Lib.hid he
          clear he
          go_enter Tryd.func78, Tryd.ntmps78
          go_wp2_with (first | (go_at_call 53; refine (Hq0.out _).mono ?_; rintro e w' ⟨rfl, rfl⟩) | (go_at_call 51; refine (Hend.out).mono ?_; rintro e w' ⟨rfl, rfl⟩))
          (first | go_ret2 | go_ret3)
          refine ⟨ret_tri (str_eq (eq_bs ?_)) (int_eq ?_), ?_⟩
          · have h9 := Hx.out
            rw [hT2] at h9
            first | rw [Hx.out] | rw [h9]
            simp [bs_data, Fm.repl, He.out]
          · omega
          · exact Below.refl _ _
        · have hev : (((vb x).toNat : Int) == ((vb v).toNat : Int)) = false := by
            rw [beq_eq_false_iff_ne]
            intro e
            exact he (vb_inj (UInt8.toNat_inj.1 (by omega)))
          have He := Lib.hid he
          clear he
          go_enter Tryd.func78, Tryd.ntmps78
          go_upto_region 15 with (first | (go_at_call 53; refine (Hq0.out _).mono ?_; rintro e w' ⟨rfl, rfl⟩) | (go_at_call 78; refine (Hcall.out).mono ?_; rintro e w1 ⟨rfl, hb1⟩))
          go_upto_region 16 with (go_at_call 93; refine (Hfree.out _).mono ?_; rintro e w' ⟨rfl, rfl⟩)
          go_region
          all_goals
            go_wp2_with fail
            (first | go_ret2 | go_ret3)
            refine ⟨ret_tri (str_eq (eq_bs ?_)) (int_eq ?_), ?_⟩
            · simp [bs_data, Fm.repl, Fm.text, Qn.b, He.out, Hu2.out]
            · omega
            · exact hb1.drew
      | S =>
        have hb : (s[k].toNat : Int) = 83 := by rw [hop]; rfl
        have hq0 : ∀ w, Calls Tryd.prog 53 #[.int .u8 83] w fun e w' => e = .returned (.bool true) ∧ w = w' := fun w => l2Quant_calls 83 true rfl w
        have Hq0 := Lib.hid hq0
        clear hop hq0
        by_cases he : x = v
        · have hev : (((vb x).toNat : Int) == ((vb v).toNat : Int)) = true := by rw [he]; exact beq_self_eq_true _
          have He := Lib.hid he
          clear he
          go_enter Tryd.func78, Tryd.ntmps78
          go_wp2_with (first | (go_at_call 53; refine (Hq0.out _).mono ?_; rintro e w' ⟨rfl, rfl⟩) | (go_at_call 51; refine (Hend.out).mono ?_; rintro e w' ⟨rfl, rfl⟩))
          (first | go_ret2 | go_ret3)
          refine ⟨ret_tri (str_eq (eq_bs ?_)) (int_eq ?_), ?_⟩
          · have h9 := Hx.out
            rw [hT2] at h9
            first | rw [Hx.out] | rw [h9]
            simp [bs_data, Fm.repl, He.out]
          · omega
          · exact Below.refl _ _
        · have hev : (((vb x).toNat : Int) == ((vb v).toNat : Int)) = false := by
            rw [beq_eq_false_iff_ne]
            intro e
            exact he (vb_inj (UInt8.toNat_inj.1 (by omega)))
          have He := Lib.hid he
          clear he
          go_enter Tryd.func78, Tryd.ntmps78
          go_upto_region 15 with (first | (go_at_call 53; refine (Hq0.out _).mono ?_; rintro e w' ⟨rfl, rfl⟩) | (go_at_call 78; refine (Hcall.out).mono ?_; rintro e w1 ⟨rfl, hb1⟩))
          go_upto_region 16 with (go_at_call 93; refine (Hfree.out _).mono ?_; rintro e w' ⟨rfl, rfl⟩)
          go_region
          all_goals
            go_wp2_with fail
            (first | go_ret2 | go_ret3)
            refine ⟨ret_tri (str_eq (eq_bs ?_)) (int_eq ?_), ?_⟩
            · simp [bs_data, Fm.repl, Fm.text, Qn.b, He.out, Hu2.out]
            · omega
            · exact hb1.drew
      | c2 =>
        have hb : (s[k].toNat : Int) = 50 := by rw [hop]; rfl
        have hq0 : ∀ w, Calls Tryd.prog 53 #[.int .u8 50] w fun e w' => e = .returned (.bool true) ∧ w = w' := fun w => l2Quant_calls 50 true rfl w
        have Hq0 := Lib.hid hq0
        clear hop hq0
        by_cases he : x = v
        · have hev : (((vb x).toNat : Int) == ((vb v).toNat : Int)) = true := by rw [he]; exact beq_self_eq_true _
          have He := Lib.hid he
          clear he
          go_enter Tryd.func78, Tryd.ntmps78
          go_wp2_with (first | (go_at_call 53; refine (Hq0.out _).mono ?_; rintro e w' ⟨rfl, rfl⟩) | (go_at_call 51; refine (Hend.out).mono ?_; rintro e w' ⟨rfl, rfl⟩))
          (first | go_ret2 | go_ret3)
          refine ⟨ret_tri (str_eq (eq_bs ?_)) (int_eq ?_), ?_⟩
          · have h9 := Hx.out
            rw [hT2] at h9
            first | rw [Hx.out] | rw [h9]
            simp [bs_data, Fm.repl, He.out]
          · omega
          · exact Below.refl _ _
        · have hev : (((vb x).toNat : Int) == ((vb v).toNat : Int)) = false := by
            rw [beq_eq_false_iff_ne]
            intro e
            exact he (vb_inj (UInt8.toNat_inj.1 (by omega)))
          have He := Lib.hid he
          clear he
          go_enter Tryd.func78, Tryd.ntmps78
          go_upto_region 15 with (first | (go_at_call 53; refine (Hq0.out _).mono ?_; rintro e w' ⟨rfl, rfl⟩) | (go_at_call 78; refine (Hcall.out).mono ?_; rintro e w1 ⟨rfl, hb1⟩))
          go_upto_region 16 with (go_at_call 93; refine (Hfree.out _).mono ?_; rintro e w' ⟨rfl, rfl⟩)
          go_region
          all_goals
            go_wp2_with fail
            (first | go_ret2 | go_ret3)
            refine ⟨ret_tri (str_eq (eq_bs ?_)) (int_eq ?_), ?_⟩
            · simp [bs_data, Fm.repl, Fm.text, Qn.b, He.out, Hu2.out]
            · omega
            · exact hb1.drew
      | c3 =>
        have hb : (s[k].toNat : Int) = 51 := by rw [hop]; rfl
        have hq0 : ∀ w, Calls Tryd.prog 53 #[.int .u8 51] w fun e w' => e = .returned (.bool true) ∧ w = w' := fun w => l2Quant_calls 51 true rfl w
        have Hq0 := Lib.hid hq0
        clear hop hq0
        by_cases he : x = v
        · have hev : (((vb x).toNat : Int) == ((vb v).toNat : Int)) = true := by rw [he]; exact beq_self_eq_true _
          have He := Lib.hid he
          clear he
          go_enter Tryd.func78, Tryd.ntmps78
          go_wp2_with (first | (go_at_call 53; refine (Hq0.out _).mono ?_; rintro e w' ⟨rfl, rfl⟩) | (go_at_call 51; refine (Hend.out).mono ?_; rintro e w' ⟨rfl, rfl⟩))
          (first | go_ret2 | go_ret3)
          refine ⟨ret_tri (str_eq (eq_bs ?_)) (int_eq ?_), ?_⟩
          · have h9 := Hx.out
            rw [hT2] at h9
            first | rw [Hx.out] | rw [h9]
            simp [bs_data, Fm.repl, He.out]
          · omega
          · exact Below.refl _ _
        · have hev : (((vb x).toNat : Int) == ((vb v).toNat : Int)) = false := by
            rw [beq_eq_false_iff_ne]
            intro e
            exact he (vb_inj (UInt8.toNat_inj.1 (by omega)))
          have He := Lib.hid he
          clear he
          go_enter Tryd.func78, Tryd.ntmps78
          go_upto_region 15 with (first | (go_at_call 53; refine (Hq0.out _).mono ?_; rintro e w' ⟨rfl, rfl⟩) | (go_at_call 78; refine (Hcall.out).mono ?_; rintro e w1 ⟨rfl, hb1⟩))
          go_upto_region 16 with (go_at_call 93; refine (Hfree.out _).mono ?_; rintro e w' ⟨rfl, rfl⟩)
          go_region
          all_goals
            go_wp2_with fail
            (first | go_ret2 | go_ret3)
            refine ⟨ret_tri (str_eq (eq_bs ?_)) (int_eq ?_), ?_⟩
            · simp [bs_data, Fm.repl, Fm.text, Qn.b, He.out, Hu2.out]
            · omega
            · exact hb1.drew
      | c4 =>
        have hb : (s[k].toNat : Int) = 52 := by rw [hop]; rfl
        have hq0 : ∀ w, Calls Tryd.prog 53 #[.int .u8 52] w fun e w' => e = .returned (.bool true) ∧ w = w' := fun w => l2Quant_calls 52 true rfl w
        have Hq0 := Lib.hid hq0
        clear hop hq0
        by_cases he : x = v
        · have hev : (((vb x).toNat : Int) == ((vb v).toNat : Int)) = true := by rw [he]; exact beq_self_eq_true _
          have He := Lib.hid he
          clear he
          go_enter Tryd.func78, Tryd.ntmps78
          go_wp2_with (first | (go_at_call 53; refine (Hq0.out _).mono ?_; rintro e w' ⟨rfl, rfl⟩) | (go_at_call 51; refine (Hend.out).mono ?_; rintro e w' ⟨rfl, rfl⟩))
          (first | go_ret2 | go_ret3)
          refine ⟨ret_tri (str_eq (eq_bs ?_)) (int_eq ?_), ?_⟩
          · have h9 := Hx.out
            rw [hT2] at h9
            first | rw [Hx.out] | rw [h9]
            simp [bs_data, Fm.repl, He.out]
          · omega
          · exact Below.refl _ _
        · have hev : (((vb x).toNat : Int) == ((vb v).toNat : Int)) = false := by
            rw [beq_eq_false_iff_ne]
            intro e
            exact he (vb_inj (UInt8.toNat_inj.1 (by omega)))
          have He := Lib.hid he
          clear he
          go_enter Tryd.func78, Tryd.ntmps78
          go_upto_region 15 with (first | (go_at_call 53; refine (Hq0.out _).mono ?_; rintro e w' ⟨rfl, rfl⟩) | (go_at_call 78; refine (Hcall.out).mono ?_; rintro e w1 ⟨rfl, hb1⟩))
          go_upto_region 16 with (go_at_call 93; refine (Hfree.out _).mono ?_; rintro e w' ⟨rfl, rfl⟩)
          go_region
          all_goals
            go_wp2_with fail
            (first | go_ret2 | go_ret3)
            refine ⟨ret_tri (str_eq (eq_bs ?_)) (int_eq ?_), ?_⟩
            · simp [bs_data, Fm.repl, Fm.text, Qn.b, He.out, Hu2.out]
            · omega
            · exact hb1.drew
end Go.Proofs.YtpaleogkgfclnaaDoor

namespace Go.Proofs.YtpaleogkgfclnaaDoor
open Go.RowKit
open Pl
set_option linter.unusedSimpArgs false
set_option linter.unusedVariables false

/-- a text and whether there is one; with a number between them -/
def OutP (Q : ByteArray → Bool → Prop) (e : Ending) : Prop := ∃ t ok, e = .returned (.tuple #[.string t, .bool ok]) ∧ Q t ok
def OutN (n : Nat) (Q : ByteArray → Bool → Prop) (e : Ending) : Prop := ∃ t ok, e = .returned (.tuple #[.string t, .int .i64 (n : Nat), .bool ok]) ∧ Q t ok
theorem abc_at {u : Fin 4} {k : Nat} (hk : k < 4) (h : u.val = k) : (((ByteArray.mk #[97, 98, 99, 100])[k]'hk).toNat : Int) = ((vb u).toNat : Int) := by
  subst h
  revert u
  decide
theorem abc_cut {u : Fin 4} {k : Nat} (h : u.val = k) : (ByteArray.mk #[97, 98, 99, 100]).extract k (k + 1) = bs [vb u] := by
  subst h
  match u with
  | 0 => exact eq_bs (by rw [Lib.extract_data]; rfl)
  | 1 => exact eq_bs (by rw [Lib.extract_data]; rfl)
  | 2 => exact eq_bs (by rw [Lib.extract_data]; rfl)
  | 3 => exact eq_bs (by rw [Lib.extract_data]; rfl)
/-- what the reference's l2Spell gives back -/
def TwoP (v : Fin 4) (q : Fm) (t : ByteArray) (ok : Bool) : Prop := (ok = true ∧ ∃ u, freshV q.allBits v = some u ∧ t = bs ([83, vb v, 83, vb u, 38, 33, 61, vb v, vb u, 38] ++ q.text ++ (q.repl v u).text)) ∨ (ok = false ∧ t = ⟨#[]⟩ ∧ freshV q.allBits v = none)
set_option maxHeartbeats 40000000 in
set_option maxRecDepth 100000 in
theorem l2Spell_calls (v : Fin 4) (q : Fm) (w : World) (hq : q.text.length ≤ 400000000) : Calls Tryd.prog 52 #[.string (bs (50 :: vb v :: q.text))] w fun e w' => OutP (TwoP v q) e ∧ Below w.heap.size w w' := by
  obtain ⟨s, hs⟩ : ∃ s, s = bs (50 :: vb v :: q.text) := ⟨_, rfl⟩
  have hdata : s.data.toList = 50 :: vb v :: q.text := by rw [hs, bs_data]
  have hsz : s.size = q.text.length + 2 := by rw [hs, bs_size]; simp
  have hk2 : 1 < s.size := by omega
  have hvb : (s[1].toNat : Int) = ((vb v).toNat : Nat) := by
    have h1 := drop_at hk2
    rw [hdata] at h1
    rw [← (List.cons.inj h1).1]
  have hd0 : s.data.toList.drop 0 = [50] ++ (vb v :: q.text) := by rw [hdata]; rfl
  have hx1 := piece_eq (show s.data.toList.drop 1 = [vb v] ++ q.text by rw [hdata]; rfl) 2 rfl
  have hz1 := piece_size (show s.data.toList.drop 1 = [vb v] ++ q.text by rw [hdata]; rfl) 2 rfl
  have hx2 := piece_eq (show s.data.toList.drop 2 = q.text ++ [] by rw [hdata]; simp) s.size (by omega)
  have hz2 := piece_size (show s.data.toList.drop 2 = q.text ++ [] by rw [hdata]; simp) s.size (by omega)
  simp only [List.length_cons, List.length_nil] at hz1
  have hren : ∀ (u : Fin 4) (W : World), q.allBits.testBit u.val = false → Calls Tryd.prog 78 #[.string (bs q.text), .int .i64 0, .int .u8 (vb v).toNat, .int .u8 (vb u).toNat] W fun e w' => e = .returned (.tuple #[.string (bs (q.repl v u).text), .int .i64 (0 + q.text.length : Nat), .bool true]) ∧ Below W.heap.size W w' := fun u W hu => by
    exact l2Rename_calls v u q.size q (bs q.text) 0 [] 0 W (Nat.le_refl _) (by simp [bs_data]) (by rw [bs_size]; omega) hu rfl
  have hfind : ∀ (c : UInt8) (W : World), Calls Tryd.prog 77 #[.string s, .int .u8 c.toNat] W fun e w' => e = .returned (.int .i64 (findB c s.data.toList)) ∧ W = w' := fun c W => l15Find_calls s c W (by unfold maxLen; omega)
  have hbit : ∀ u : Fin 4, v ≠ u → (0 ≤ findB (vb u) s.data.toList ↔ q.allBits.testBit u.val = true) := fun u hvu => by
    rw [findB_nonneg, all_text, hdata]
    have h1 : vb u ≠ 50 := (show ∀ u : Fin 4, vb u ≠ 50 by decide) u
    have h2 : vb u ≠ vb v := fun e => hvu (vb_inj e.symm)
    simp [h1, h2]
  have Hren := Lib.hid hren
  have Hfind := Lib.hid hfind
  have Hbit := Lib.hid hbit
  have Hx1 := Lib.hid hx1
  have hx2b := hx2
  rw [hsz] at hx2b
  have Hx2 := Lib.hid hx2b
  rw [← hs]
  clear hs hdata hd0 hx1 hx2 hx2b hren hfind hbit
  go_enter Tryd.func52, Tryd.ntmps52
  go_wp2_with fail
  go_loop [5] (fun i => ∃ k : Nat, k ≤ 4 ∧ i = .int .i64 k ∧ ∀ i : Fin 4, i.val < k → q.allBits.testBit i.val = true ∨ v = i) (fun i => 4 - (intOf i).toNat)
  case atStart => exact ⟨0, by omega, rfl, fun i hi => absurd hi (Nat.not_lt_zero _)⟩
  case round =>
    obtain ⟨k, hk, rfl, hall⟩ := hrel
    have Hall := Lib.hid hall
    clear hall
    by_cases hlt : k < 4
    · obtain ⟨u, hu⟩ : ∃ u : Fin 4, u.val = k := ⟨⟨k, hlt⟩, rfl⟩
      have hab := abc_at hlt hu
      have hcu := abc_cut hu
      have hk3 : (k : Int) + 1 ≤ 4 := by omega
      by_cases he : v = u
      · have hev : (((vb u).toNat : Int) == ((vb v).toNat : Int)) = true := by rw [he]; exact beq_self_eq_true _
        have He := Lib.hid he
        have Hu := Lib.hid hu
        clear he hu
        go_wp2_with fail
        go_round
        case rel => exact ⟨k + 1, by omega, by go_num, fun i hi => by
          by_cases hik : i.val < k
          · exact Hall.out i hik
          · exact .inr (He.out.trans (Fin.ext (by have := Hu.out; omega)))⟩
        case measure => simp [intOf]; omega
      · have hev : (((vb u).toNat : Int) == ((vb v).toNat : Int)) = false := by
          rw [beq_eq_false_iff_ne]
          intro e
          exact he (vb_inj (UInt8.toNat_inj.1 (by omega)))
        have hiff := Hbit.out u he
        have hf := fun W' => Hfind.out (vb u) W'
        have He := Lib.hid he
        have Hf := Lib.hid hf
        have Hu := Lib.hid hu
        cases hb2 : q.allBits.testBit u.val with
        | true =>
          have g : 0 ≤ findB (vb u) s.data.toList := hiff.2 hb2
          have Hb2 := Lib.hid hb2
          clear hb2 hiff hf he hu
          generalize findB (vb u) s.data.toList = FB at *
          go_wp2_with fail
          refine (Hf.out _).mono ?_
          rintro e w' ⟨rfl, rfl⟩
          go_wp2_with fail
          go_round
          case rel => exact ⟨k + 1, by omega, by go_num, fun i hi => by
            by_cases hik : i.val < k
            · exact Hall.out i hik
            · exact .inl (by rw [show i.val = u.val by have := Hu.out; omega]; exact Hb2.out)⟩
          case measure => simp [intOf]; omega
        | false =>
          have g : findB (vb u) s.data.toList < 0 := by
            rcases Int.lt_or_le (findB (vb u) s.data.toList) 0 with h | h
            · exact h
            · have h2 := hiff.1 h
              rw [hb2] at h2
              cases h2
          have hfr : freshV q.allBits v = some u := fresh_first hb2 he fun i hi => Hall.out i (by omega)
          have hr := fun W' => Hren.out u W' hb2
          have hrs : (bs (q.repl v u).text).size = q.text.length := by rw [bs_size, repl_len]
          have hqs : (bs q.text).size = q.text.length := bs_size _
          have Hfr := Lib.hid hfr
          have Hr := Lib.hid hr
          clear hb2 hiff hfr hr hf he hu
          generalize findB (vb u) s.data.toList = FB at *
          go_wp2_with fail
          refine (Hf.out _).mono ?_
          rintro e w' ⟨rfl, rfl⟩
          have hx2 := Hx2.out
          go_wp2_with fail
          refine (Hr.out _).mono ?_
          rintro e w1 ⟨rfl, hb1⟩
          have HB1 := Lib.hid hb1
          clear hb1
          have hx1 := Hx1.out
          have hsv : (bs [vb v]).size = 1 := rfl
          have hsu : (bs [vb u]).size = 1 := rfl
          have hqi : (q.text.length : Int) ≤ 400000000 := by omega
          go_upto_region 8 with (fail)
          refine region_sched [(0, true), (1, true), (2, true), (3, true), (4, true), (5, true), (6, true), (7, true), (8, true), (9, true), (10, true), (11, true), (12, true), (13, true), (14, true), (15, true), (16, true), (17, true), (18, true), (19, true), (20, true), (21, true), (22, true), (23, true), (24, true), (25, true), (26, true)] (fun _ : World => True) (by kernel_rfl) (by kernel_rfl) (by kernel_rfl) (by kernel_rfl) (fun _ _ _ _ h => h) ?_ (fun Q1 hQ1 => ?_)
          · trivial
          try simp only [List.append]
          refine sched_take' (v := ?_) (a' := ?_) rfl (by kernel_rfl) ?_ rfl ?_ ?_
          rotate_left 2
          · intro w hSw
            (try dsimp only at hSw)
            go_simp
            try with_reducible rfl
          · (try simp only [Act.put, List.setIfInBounds_toArray, List.set_cons_zero, List.set_cons_succ])
            try rfl
          refine sched_take' (v := .string (bs [vb v])) (a' := ?_) rfl (by kernel_rfl) ?_ rfl ?_ ?_
          rotate_left 1
          · intro w hSw
            (try dsimp only at hSw)
            go_simp
            first | done | (intro h; exfalso; omega) | (rw [hx1])
          · (try simp only [Act.put, List.setIfInBounds_toArray, List.set_cons_zero, List.set_cons_succ])
            try rfl
          refine sched_take' (v := .string (ByteArray.mk #[83] ++ bs [vb v])) (a' := ?_) rfl (by kernel_rfl) ?_ rfl ?_ ?_
          rotate_left 1
          · intro w hSw
            (try dsimp only at hSw)
            go_simp
            first | done | omega | (rw [if_neg (by omega)]) | (simp; omega)
          · (try simp only [Act.put, List.setIfInBounds_toArray, List.set_cons_zero, List.set_cons_succ])
            try rfl
          refine sched_take' (v := .string (ByteArray.mk #[83] ++ bs [vb v] ++ ByteArray.mk #[83])) (a' := ?_) rfl (by kernel_rfl) ?_ rfl ?_ ?_
          rotate_left 1
          · intro w hSw
            (try dsimp only at hSw)
            go_simp
            first | done | omega | (rw [if_neg (by omega)]) | (simp; omega)
          · (try simp only [Act.put, List.setIfInBounds_toArray, List.set_cons_zero, List.set_cons_succ])
            try rfl
          refine sched_take' (v := ?_) (a' := ?_) rfl (by kernel_rfl) ?_ rfl ?_ ?_
          rotate_left 2
          · intro w hSw
            (try dsimp only at hSw)
            go_simp
            try with_reducible rfl
          · (try simp only [Act.put, List.setIfInBounds_toArray, List.set_cons_zero, List.set_cons_succ])
            try rfl
          refine sched_take' (v := ?_) (a' := ?_) rfl (by kernel_rfl) ?_ rfl ?_ ?_
          rotate_left 2
          · intro w hSw
            (try dsimp only at hSw)
            go_simp
            try with_reducible rfl
          · (try simp only [Act.put, List.setIfInBounds_toArray, List.set_cons_zero, List.set_cons_succ])
            try rfl
          refine sched_take' (v := .int .i64 ((k : Int) + 1)) (a' := ?_) rfl (by kernel_rfl) ?_ rfl ?_ ?_
          rotate_left 1
          · intro w hSw
            (try dsimp only at hSw)
            go_simp
            first | done | (rw [IntWalk.i64_in _ (by omega)])
          · (try simp only [Act.put, List.setIfInBounds_toArray, List.set_cons_zero, List.set_cons_succ])
            try rfl
          refine sched_take' (v := .string (bs [vb u])) (a' := ?_) rfl (by kernel_rfl) ?_ rfl ?_ ?_
          rotate_left 1
          · intro w hSw
            (try dsimp only at hSw)
            go_simp
            first | done | (intro h; exfalso; omega) | (rw [if_pos (by omega), if_pos (by omega)]) | (rw [if_pos (by omega)])
          · (try simp only [Act.put, List.setIfInBounds_toArray, List.set_cons_zero, List.set_cons_succ])
            try rfl
          refine sched_take' (v := .string (ByteArray.mk #[83] ++ bs [vb v] ++ ByteArray.mk #[83] ++ bs [vb u])) (a' := ?_) rfl (by kernel_rfl) ?_ rfl ?_ ?_
          rotate_left 1
          · intro w hSw
            (try dsimp only at hSw)
            go_simp
            first | done | omega | (rw [if_neg (by omega)]) | (simp; omega)
          · (try simp only [Act.put, List.setIfInBounds_toArray, List.set_cons_zero, List.set_cons_succ])
            try rfl
          refine sched_take' (v := .string (ByteArray.mk #[83] ++ bs [vb v] ++ ByteArray.mk #[83] ++ bs [vb u] ++ ByteArray.mk #[38, 33, 61])) (a' := ?_) rfl (by kernel_rfl) ?_ rfl ?_ ?_
          rotate_left 1
          · intro w hSw
            (try dsimp only at hSw)
            go_simp
            first | done | omega | (rw [if_neg (by omega)]) | (simp; omega)
          · (try simp only [Act.put, List.setIfInBounds_toArray, List.set_cons_zero, List.set_cons_succ])
            try rfl
          refine sched_take' (v := ?_) (a' := ?_) rfl (by kernel_rfl) ?_ rfl ?_ ?_
          rotate_left 2
          · intro w hSw
            (try dsimp only at hSw)
            go_simp
            try with_reducible rfl
          · (try simp only [Act.put, List.setIfInBounds_toArray, List.set_cons_zero, List.set_cons_succ])
            try rfl
          refine sched_take' (v := .string (bs [vb v])) (a' := ?_) rfl (by kernel_rfl) ?_ rfl ?_ ?_
          rotate_left 1
          · intro w hSw
            (try dsimp only at hSw)
            go_simp
            first | done | (intro h; exfalso; omega) | (rw [hx1])
          · (try simp only [Act.put, List.setIfInBounds_toArray, List.set_cons_zero, List.set_cons_succ])
            try rfl
          refine sched_take' (v := .string (ByteArray.mk #[83] ++ bs [vb v] ++ ByteArray.mk #[83] ++ bs [vb u] ++ ByteArray.mk #[38, 33, 61] ++ bs [vb v])) (a' := ?_) rfl (by kernel_rfl) ?_ rfl ?_ ?_
          rotate_left 1
          · intro w hSw
            (try dsimp only at hSw)
            go_simp
            first | done | omega | (rw [if_neg (by omega)]) | (simp; omega)
          · (try simp only [Act.put, List.setIfInBounds_toArray, List.set_cons_zero, List.set_cons_succ])
            try rfl
          refine sched_take' (v := ?_) (a' := ?_) rfl (by kernel_rfl) ?_ rfl ?_ ?_
          rotate_left 2
          · intro w hSw
            (try dsimp only at hSw)
            go_simp
            try with_reducible rfl
          · (try simp only [Act.put, List.setIfInBounds_toArray, List.set_cons_zero, List.set_cons_succ])
            try rfl
          refine sched_take' (v := ?_) (a' := ?_) rfl (by kernel_rfl) ?_ rfl ?_ ?_
          rotate_left 2
          · intro w hSw
            (try dsimp only at hSw)
            go_simp
            try with_reducible rfl
          · (try simp only [Act.put, List.setIfInBounds_toArray, List.set_cons_zero, List.set_cons_succ])
            try rfl
          refine sched_take' (v := .int .i64 ((k : Int) + 1)) (a' := ?_) rfl (by kernel_rfl) ?_ rfl ?_ ?_
          rotate_left 1
          · intro w hSw
            (try dsimp only at hSw)
            go_simp
            first | done | (rw [IntWalk.i64_in _ (by omega)])
          · (try simp only [Act.put, List.setIfInBounds_toArray, List.set_cons_zero, List.set_cons_succ])
            try rfl
          refine sched_take' (v := .string (bs [vb u])) (a' := ?_) rfl (by kernel_rfl) ?_ rfl ?_ ?_
          rotate_left 1
          · intro w hSw
            (try dsimp only at hSw)
            go_simp
            first | done | (intro h; exfalso; omega) | (rw [if_pos (by omega), if_pos (by omega)]) | (rw [if_pos (by omega)])
          · (try simp only [Act.put, List.setIfInBounds_toArray, List.set_cons_zero, List.set_cons_succ])
            try rfl
          refine sched_take' (v := .string (ByteArray.mk #[83] ++ bs [vb v] ++ ByteArray.mk #[83] ++ bs [vb u] ++ ByteArray.mk #[38, 33, 61] ++ bs [vb v] ++ bs [vb u])) (a' := ?_) rfl (by kernel_rfl) ?_ rfl ?_ ?_
          rotate_left 1
          · intro w hSw
            (try dsimp only at hSw)
            go_simp
            first | done | omega | (rw [if_neg (by omega)]) | (simp; omega)
          · (try simp only [Act.put, List.setIfInBounds_toArray, List.set_cons_zero, List.set_cons_succ])
            try rfl
          refine sched_take' (v := .string (ByteArray.mk #[83] ++ bs [vb v] ++ ByteArray.mk #[83] ++ bs [vb u] ++ ByteArray.mk #[38, 33, 61] ++ bs [vb v] ++ bs [vb u] ++ ByteArray.mk #[38])) (a' := ?_) rfl (by kernel_rfl) ?_ rfl ?_ ?_
          rotate_left 1
          · intro w hSw
            (try dsimp only at hSw)
            go_simp
            first | done | omega | (rw [if_neg (by omega)]) | (simp; omega)
          · (try simp only [Act.put, List.setIfInBounds_toArray, List.set_cons_zero, List.set_cons_succ])
            try rfl
          refine sched_take' (v := ?_) (a' := ?_) rfl (by kernel_rfl) ?_ rfl ?_ ?_
          rotate_left 2
          · intro w hSw
            (try dsimp only at hSw)
            go_simp
            try with_reducible rfl
          · (try simp only [Act.put, List.setIfInBounds_toArray, List.set_cons_zero, List.set_cons_succ])
            try rfl
          refine sched_take' (v := .string (bs q.text)) (a' := ?_) rfl (by kernel_rfl) ?_ rfl ?_ ?_
          rotate_left 1
          · intro w hSw
            (try dsimp only at hSw)
            go_simp
            first | done | (intro h; exfalso; omega) | (rw [hx2])
          · (try simp only [Act.put, List.setIfInBounds_toArray, List.set_cons_zero, List.set_cons_succ])
            try rfl
          refine sched_take' (v := .string (ByteArray.mk #[83] ++ bs [vb v] ++ ByteArray.mk #[83] ++ bs [vb u] ++ ByteArray.mk #[38, 33, 61] ++ bs [vb v] ++ bs [vb u] ++ ByteArray.mk #[38] ++ bs q.text)) (a' := ?_) rfl (by kernel_rfl) ?_ rfl ?_ ?_
          rotate_left 1
          · intro w hSw
            (try dsimp only at hSw)
            go_simp
            first | done | omega | (rw [if_neg (by omega)]) | (simp; omega)
          · (try simp only [Act.put, List.setIfInBounds_toArray, List.set_cons_zero, List.set_cons_succ])
            try rfl
          refine sched_take' (v := ?_) (a' := ?_) rfl (by kernel_rfl) ?_ rfl ?_ ?_
          rotate_left 2
          · intro w hSw
            (try dsimp only at hSw)
            go_simp
            try with_reducible rfl
          · (try simp only [Act.put, List.setIfInBounds_toArray, List.set_cons_zero, List.set_cons_succ])
            try rfl
          refine sched_take' (v := .string (ByteArray.mk #[83] ++ bs [vb v] ++ ByteArray.mk #[83] ++ bs [vb u] ++ ByteArray.mk #[38, 33, 61] ++ bs [vb v] ++ bs [vb u] ++ ByteArray.mk #[38] ++ bs q.text ++ bs (q.repl v u).text)) (a' := ?_) rfl (by kernel_rfl) ?_ rfl ?_ ?_
          rotate_left 1
          · intro w hSw
            (try dsimp only at hSw)
            go_simp
            first | done | omega | (rw [if_neg (by omega)]) | (simp; omega)
          · (try simp only [Act.put, List.setIfInBounds_toArray, List.set_cons_zero, List.set_cons_succ])
            try rfl
          refine sched_take' (v := ?_) (a' := ?_) rfl (by kernel_rfl) ?_ rfl ?_ ?_
          rotate_left 2
          · intro w hSw
            (try dsimp only at hSw)
            go_simp
            try with_reducible rfl
          · (try simp only [Act.put, List.setIfInBounds_toArray, List.set_cons_zero, List.set_cons_succ])
            try rfl
          refine sched_take' (v := ?_) (a' := ?_) rfl (by kernel_rfl) ?_ rfl ?_ ?_
          rotate_left 2
          · intro w hSw
            (try dsimp only at hSw)
            go_simp
            try with_reducible rfl
          · (try simp only [Act.put, List.setIfInBounds_toArray, List.set_cons_zero, List.set_cons_succ])
            try rfl
          refine sched_take' (v := ?_) (a' := ?_) rfl (by kernel_rfl) ?_ rfl ?_ ?_
          rotate_left 2
          · intro w hSw
            (try dsimp only at hSw)
            go_simp
            try with_reducible rfl
          · (try simp only [Act.put, List.setIfInBounds_toArray, List.set_cons_zero, List.set_cons_succ])
            try rfl
          refine sched_done (hQ1.out _ _ ?_)
          go_wp2_with fail
          go_ret2
          refine ⟨⟨_, _, rfl, .inl ⟨rfl, u, Hfr.out, eq_bs ?_⟩⟩, HB1.out.drew⟩
          simp [bs_data]
    · obtain rfl : k = 4 := by omega
      have hfr : freshV q.allBits v = none := fresh_none fun i => Hall.out i i.isLt
      have Hfr := Lib.hid hfr
      clear hfr
      go_wp2_with fail
      (first | go_ret2 | go_ret3)
      exact ⟨⟨_, _, rfl, .inr ⟨rfl, rfl, Hfr.out⟩⟩, Below.refl _ _⟩

theorem SpS.leaf {f : Fm} (h : f.spell = some f) {t : ByteArray} (ht : t = bs f.text) : SpS f t true := by rw [ht]; exact SpS.yes h
theorem SpS.neg {p : Fm} {t : ByteArray} {ok : Bool} (h : SpS p t ok) : SpS (.neg p) (⟨#[33]⟩ ++ t) ok := by
  obtain ⟨h1, h2, h3⟩ := h
  refine ⟨?_, fun e => ?_, fun e => ?_⟩
  · rw [ByteArray.size_append]
    simp only [Fm.text, List.length_cons]
    show 1 + t.size ≤ _
    omega
  · obtain ⟨g, hg, rfl⟩ := h2 e
    exact ⟨.neg g, by simp [Fm.spell, hg], eq_bs (by simp [bs_data, Fm.text])⟩
  · simp [Fm.spell, h3 e]
theorem SpS.con {p q : Fm} {t x z : ByteArray} {ok ko : Bool} (h : SpS p t ok) (g : SpS q x ko) (hz : z = bs [38]) : SpS (.con p q) (z ++ t ++ x) (ok && ko) := by
  obtain ⟨h1, h2, h3⟩ := h
  obtain ⟨g1, g2, g3⟩ := g
  subst hz
  refine ⟨?_, fun e => ?_, fun e => ?_⟩
  · rw [ByteArray.size_append, ByteArray.size_append, bs_size]
    simp only [Fm.text, List.length_cons, List.length_append, List.length_nil]
    omega
  · rw [Bool.and_eq_true] at e
    obtain ⟨a, ha, rfl⟩ := h2 e.1
    obtain ⟨b, hb, rfl⟩ := g2 e.2
    exact ⟨.con a b, by simp [Fm.spell, ha, hb], eq_bs (by simp [bs_data, Fm.text])⟩
  · cases ok with
    | false => simp [Fm.spell, h3 rfl]
    | true => simp only [Fm.spell, g3 (by simpa using e)]; cases p.spell <;> rfl
theorem SpS.dis {p q : Fm} {t x z : ByteArray} {ok ko : Bool} (h : SpS p t ok) (g : SpS q x ko) (hz : z = bs [124]) : SpS (.dis p q) (z ++ t ++ x) (ok && ko) := by
  obtain ⟨h1, h2, h3⟩ := h
  obtain ⟨g1, g2, g3⟩ := g
  subst hz
  refine ⟨?_, fun e => ?_, fun e => ?_⟩
  · rw [ByteArray.size_append, ByteArray.size_append, bs_size]
    simp only [Fm.text, List.length_cons, List.length_append, List.length_nil]
    omega
  · rw [Bool.and_eq_true] at e
    obtain ⟨a, ha, rfl⟩ := h2 e.1
    obtain ⟨b, hb, rfl⟩ := g2 e.2
    exact ⟨.dis a b, by simp [Fm.spell, ha, hb], eq_bs (by simp [bs_data, Fm.text])⟩
  · cases ok with
    | false => simp [Fm.spell, h3 rfl]
    | true => simp only [Fm.spell, g3 (by simpa using e)]; cases p.spell <;> rfl
theorem SpS.qA {p : Fm} {v : Fin 4} {t z : ByteArray} {ok : Bool} (h : SpS p t ok) (hz : z = bs [65, vb v]) : SpS (.qu .A v p) (z ++ t) ok := by
  obtain ⟨h1, h2, h3⟩ := h
  subst hz
  refine ⟨?_, fun e => ?_, fun e => ?_⟩
  · rw [ByteArray.size_append, bs_size]
    simp only [Fm.text, List.length_cons, List.length_nil]
    omega
  · obtain ⟨g, hg, rfl⟩ := h2 e
    exact ⟨.qu .A v g, by simp [Fm.spell, hg], eq_bs (by simp [bs_data, Fm.text, Qn.b])⟩
  · simp [Fm.spell, h3 e]
theorem SpS.qS {p : Fm} {v : Fin 4} {t z : ByteArray} {ok : Bool} (h : SpS p t ok) (hz : z = bs [83, vb v]) : SpS (.qu .S v p) (z ++ t) ok := by
  obtain ⟨h1, h2, h3⟩ := h
  subst hz
  refine ⟨?_, fun e => ?_, fun e => ?_⟩
  · rw [ByteArray.size_append, bs_size]
    simp only [Fm.text, List.length_cons, List.length_nil]
    omega
  · obtain ⟨g, hg, rfl⟩ := h2 e
    exact ⟨.qu .S v g, by simp [Fm.spell, hg], eq_bs (by simp [bs_data, Fm.text, Qn.b])⟩
  · simp [Fm.spell, h3 e]
theorem SpS.two {p q : Fm} {v : Fin 4} {t : ByteArray} {ok : Bool} (hq : p.spell = some q) (h : TwoP v q t ok) : SpS (.qu .c2 v p) t ok := by
  rcases h with ⟨rfl, u, hu, rfl⟩ | ⟨rfl, rfl, hf⟩
  · rw [← two_text]
    exact SpS.yes (by rw [two_spell hq, hu])
  · exact SpS.no (by rw [two_spell hq, hf]) (by show 0 ≤ _; omega)
end Go.Proofs.YtpaleogkgfclnaaDoor
