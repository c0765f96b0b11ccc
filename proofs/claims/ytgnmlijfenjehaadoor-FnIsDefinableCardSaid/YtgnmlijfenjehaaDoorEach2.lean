/-
  eachShape itself. Condition: valid structures of one size.
-/
import Derived.Test.YtgnmlijfenjehaaDoorEach
import Derived.Laws.EntriesVeiled
namespace Go.Proofs.YtgnmlijfenjehaaDoor
open Go.RowKit
open Pl
set_option linter.unusedSimpArgs false
set_option linter.unusedVariables false

theorem new_at {w : World} {B : Nat} {t : TypeId} {cs : Array Value} (h : w.heap.size = B) : Bx (w.alloc (.cells cs t)) B t cs := h ▸ Bx.new w t cs
theorem each_six (w : World) (ca cb : Array Value) (tv : Value) :
    Bx ((((((w.alloc (.cells ca 27)).alloc (.cells cb 27)).alloc (.cells #[tv] 49)).alloc (.cells #[] 3)).alloc (.cells #[.slice (some ⟨w.heap.size + 1 + 1 + 1, 0, none⟩) 0 0] 24)).alloc (.cells #[.nilFunc] 114)) w.heap.size 27 ca ∧ Bx ((((((w.alloc (.cells ca 27)).alloc (.cells cb 27)).alloc (.cells #[tv] 49)).alloc (.cells #[] 3)).alloc (.cells #[.slice (some ⟨w.heap.size + 1 + 1 + 1, 0, none⟩) 0 0] 24)).alloc (.cells #[.nilFunc] 114)) (w.heap.size + 1) 27 cb ∧ Bx ((((((w.alloc (.cells ca 27)).alloc (.cells cb 27)).alloc (.cells #[tv] 49)).alloc (.cells #[] 3)).alloc (.cells #[.slice (some ⟨w.heap.size + 1 + 1 + 1, 0, none⟩) 0 0] 24)).alloc (.cells #[.nilFunc] 114)) (w.heap.size + 2) 49 #[tv] ∧ Bx ((((((w.alloc (.cells ca 27)).alloc (.cells cb 27)).alloc (.cells #[tv] 49)).alloc (.cells #[] 3)).alloc (.cells #[.slice (some ⟨w.heap.size + 1 + 1 + 1, 0, none⟩) 0 0] 24)).alloc (.cells #[.nilFunc] 114)) (w.heap.size + 3) 3 #[] ∧ Bx ((((((w.alloc (.cells ca 27)).alloc (.cells cb 27)).alloc (.cells #[tv] 49)).alloc (.cells #[] 3)).alloc (.cells #[.slice (some ⟨w.heap.size + 1 + 1 + 1, 0, none⟩) 0 0] 24)).alloc (.cells #[.nilFunc] 114)) (w.heap.size + 4) 24 #[.slice (some ⟨w.heap.size + 3, 0, none⟩) 0 0] ∧ Bx ((((((w.alloc (.cells ca 27)).alloc (.cells cb 27)).alloc (.cells #[tv] 49)).alloc (.cells #[] 3)).alloc (.cells #[.slice (some ⟨w.heap.size + 1 + 1 + 1, 0, none⟩) 0 0] 24)).alloc (.cells #[.nilFunc] 114)) (w.heap.size + 5) 114 #[.nilFunc] ∧ Below w.heap.size w ((((((w.alloc (.cells ca 27)).alloc (.cells cb 27)).alloc (.cells #[tv] 49)).alloc (.cells #[] 3)).alloc (.cells #[.slice (some ⟨w.heap.size + 1 + 1 + 1, 0, none⟩) 0 0] 24)).alloc (.cells #[.nilFunc] 114)) := by
  refine ⟨(((((Bx.new w 27 ca).alloc _).alloc _).alloc _).alloc _).alloc _, ((((new_at (by simp) : Bx _ (w.heap.size + 1) 27 cb).alloc _).alloc _).alloc _).alloc _, (((new_at (by simp) : Bx _ (w.heap.size + 2) 49 #[tv]).alloc _).alloc _).alloc _,
    ((new_at (by simp) : Bx _ (w.heap.size + 3) 3 #[]).alloc _).alloc _, (new_at (by simp) : Bx _ (w.heap.size + 4) 24 #[.slice (some ⟨w.heap.size + 3, 0, none⟩) 0 0]).alloc _, new_at (by simp), ?_⟩
  exact ((((((Below.refl w.heap.size w).alloc (by simp) _).alloc (by simp) _).alloc (by simp; omega) _).alloc (by simp; omega) _).alloc (by simp; omega) _).alloc (by simp; omega) _

set_option maxHeartbeats 4000000 in
set_option maxRecDepth 100000 in
theorem eachShape_calls (a b : St) (ha : a.ok) (hb : b.ok) (hab : a.n = b.n) (c : Bool) (tf : FuncId) (tF tC : Array Value) (w : World)
    (eT : ∀ (args : Array Value) (W : World), (callFunc tf args).run Tryd.prog W = .ok (.enter tf args) W)
    (J : World → List (List Nat) → Prop) (hJ : ∀ W W' L, (c = true ∨ L = []) → J W L → Below w.heap.size W W' → J W' L)
    (hT : ∀ W L (l : List Nat) A cap, (c = true ∨ L = []) → J W L → w.heap.size + 6 ≤ W.heap.size → l.length = a.n → (∀ x ∈ l, x < a.n) → LRow W A (natsI l) → Calls Tryd.prog tf (tF.push (.slice A l.length cap) ++ tC) W fun e w' => (e = .returned (.bool c) ∧ J w' (L ++ [l])) ∧ Kp w.heap.size W w')
    (hj : J w []) :
    Calls Tryd.prog 64 #[stA a, stA b, (.func (.func tf) tF tC)] w fun e w' => e = .returned (.tuple #[]) ∧ J w' (told c (isos a b)) := by
  have h := each1_calls w.heap.size a b ha hb hab c tf tF tC eT J hJ hT a.n [] []
  have hin : ∀ W, eEnv W w.heap.size a b (.func (.func tf) tF tC) → eRow W w.heap.size [] → Below w.heap.size w W → Calls Tryd.prog 90 #[.pointer (some ⟨w.heap.size + 4, 0, none⟩), .pointer (some ⟨w.heap.size, 0, none⟩), .pointer (some ⟨w.heap.size + 2, 0, none⟩), .pointer (some ⟨w.heap.size + 1, 0, none⟩), .pointer (some ⟨w.heap.size + 5, 0, none⟩)] W fun e w' => (∃ q : Bool, e = .returned (.bool q)) ∧ J w' (told c (isos a b)) := fun W he hr hbl =>
    (h W (.inr rfl) (by simp) (by simp) he hr (hJ _ _ _ (.inr rfl) hj hbl)).mono fun e w' ⟨⟨q, h1, _, h3, _⟩, _⟩ => ⟨⟨q, h1⟩, by simpa [isos] using h3⟩
  have Hin := Lib.hid hin
  clear h hin hT hJ hj ha hb hab eT
  have eE := enter_each1
  go_enter Tryd.func64, Tryd.ntmps64
  go_upto_region 3 with (fail)
  have hx := each_six w #[.int .i64 a.n, .string (bs a.set), .string (bs a.rel)] #[.int .i64 b.n, .string (bs b.set), .string (bs b.rel)] (.func (.func tf) tF tC)
  generalize ((((((w.alloc (.cells #[.int .i64 a.n, .string (bs a.set), .string (bs a.rel)] 27)).alloc (.cells #[.int .i64 b.n, .string (bs b.set), .string (bs b.rel)] 27)).alloc (.cells #[(.func (.func tf) tF tC)] 49)).alloc (.cells #[] 3)).alloc (.cells #[.slice (some ⟨w.heap.size + 1 + 1 + 1, 0, none⟩) 0 0] 24)).alloc (.cells #[.nilFunc] 114)) = V at *
  have Hx := Lib.hid hx
  have q0 : V.cell? ⟨w.heap.size + 1 + 1 + 1 + 1 + 1, 0, none⟩ = some .nilFunc := hx.2.2.2.2.2.1.cell 0
  have q1 : V.frozen? ⟨w.heap.size + 1 + 1 + 1 + 1 + 1, 0, none⟩ = false := hx.2.2.2.2.2.1.free 0
  clear hx
  go_wp2_with fail
  obtain ⟨x0, x1, x2, x3, x4, x5, hbl⟩ := Hx.out
  refine (Hin.out _ ?h1 ?h2 ?h3).mono ?_
  case h1 => exact ⟨x0.far (by simp <;> omega) _, x1.far (by simp <;> omega) _, x2.far (by simp <;> omega) _, by simpa using x5.set 0 _⟩
  case h2 => exact ⟨_, x4.far (by simp) _, ⟨by simp [intsV, natsI], .inr ⟨_, 0, #[], rfl, Nat.le_refl _, x3.far (by simp) _, Nat.le_refl _, Nat.zero_le _, rfl, by simp [intsV, natsI]⟩⟩, fun k hk => by injection hk with hk; simp at hk; omega⟩
  case h3 => exact hbl.setCell (by simp <;> omega) _
  rintro e w1 ⟨⟨q, rfl⟩, hj⟩
  have Hj := Lib.hid hj
  clear hj x0 x1 x2 x3 x4 x5 hbl Hx q0 q1
  go_wp2_with fail
  exact bodyPost_end (results_none Tryd.results64 _ _ _) rfl ⟨rfl, Hj.out⟩

end Go.Proofs.YtgnmlijfenjehaaDoor
