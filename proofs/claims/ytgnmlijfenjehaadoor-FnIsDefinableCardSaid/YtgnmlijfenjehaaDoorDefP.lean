/-
  Plain facts on IsDefinable: orbits are definable; with a definable set the other elements are, and the set with an orbit. No condition.
-/
import Derived.Test.YtgnmlijfenjehaaDoorDefI
import Derived.Test.YtgnmlijfenjehaaDoorPlLaws
namespace Go.Proofs.YtgnmlijfenjehaaDoor
open Go.RowKit
open Pl
set_option linter.unusedSimpArgs false
set_option linter.unusedVariables false

namespace Pl

/-- a list of elements is made of whole orbits -/
def defL (n : Nat) (G : List (List Nat)) (l : List Nat) : Bool := l.all fun x => (orbL n G x).all fun y => decide (y ∈ l)

theorem defL_iff {n : Nat} {G : List (List Nat)} {l : List Nat} : defL n G l = true ↔ ∀ x ∈ l, ∀ y ∈ orbL n G x, y ∈ l := by
  unfold defL
  simp only [List.all_eq_true, decide_eq_true_eq]

theorem orbL_nodup (n : Nat) (G : List (List Nat)) (x : Nat) : (orbL n G x).Nodup := List.nodup_range.filter _

theorem def_orbit {n : Nat} {G : List (List Nat)} (hG : Grp n G) {x : Nat} (hx : x < n) : defL n G (orbL n G x) = true :=
  defL_iff.2 fun y hy z hz => orb_sub hG hx hy hz

/-- the elements below k that are not in a list -/
def restTo (l : List Nat) (k : Nat) : List Nat := (List.range k).filter fun x => !decide (x ∈ l)
theorem restTo_succ (l : List Nat) (k : Nat) : restTo l (k + 1) = if k ∈ l then restTo l k else restTo l k ++ [k] := by
  unfold restTo
  rw [List.range_succ, List.filter_append]
  by_cases h : k ∈ l <;> simp [h]
theorem restTo_len (l : List Nat) (k : Nat) : (restTo l k).length ≤ k := by
  have := List.length_filter_le (fun x => !decide (x ∈ l)) (List.range k)
  simpa [restTo] using this
theorem restTo_nodup (l : List Nat) (k : Nat) : (restTo l k).Nodup := List.nodup_range.filter _
theorem mem_restTo {l : List Nat} {k x : Nat} : x ∈ restTo l k ↔ x < k ∧ x ∉ l := by
  unfold restTo
  rw [List.mem_filter, List.mem_range]
  simp
theorem def_rest {n : Nat} {G : List (List Nat)} (hG : Grp n G) {l : List Nat} (h : defL n G l = true) : defL n G (restTo l n) = true := by
  rw [defL_iff] at h ⊢
  intro x hx y hy
  obtain ⟨hxn, hxl⟩ := mem_restTo.1 hx
  exact mem_restTo.2 ⟨orb_lt hy, fun hyl => hxl (h y hyl x (orb_sym hG hxn hy))⟩

/-- a list with the first of another one that it lacks -/
def bothTo (l o : List Nat) : Nat → List Nat
  | 0 => l
  | k + 1 => if app o k ∈ bothTo l o k then bothTo l o k else bothTo l o k ++ [app o k]
theorem mem_bothTo {l o : List Nat} : ∀ {k : Nat}, k ≤ o.length → ∀ x, x ∈ bothTo l o k ↔ x ∈ l ∨ ∃ j, j < k ∧ app o j = x := by
  intro k
  induction k with
  | zero => intro _ x; simp [bothTo]
  | succ k ih =>
    intro hk x
    have ih := ih (by omega)
    unfold bothTo
    by_cases h : app o k ∈ bothTo l o k
    · rw [if_pos h, ih]
      constructor
      · rintro (h1 | ⟨j, hj, e⟩)
        · exact .inl h1
        · exact .inr ⟨j, by omega, e⟩
      · rintro (h1 | ⟨j, hj, e⟩)
        · exact .inl h1
        · by_cases hjk : j = k
          · subst hjk
            rw [e] at h
            exact (ih x).1 h
          · exact .inr ⟨j, by omega, e⟩
    · rw [if_neg h, List.mem_append, ih]
      constructor
      · rintro ((h1 | ⟨j, hj, e⟩) | h1)
        · exact .inl h1
        · exact .inr ⟨j, by omega, e⟩
        · simp at h1
          exact .inr ⟨k, by omega, h1.symm⟩
      · rintro (h1 | ⟨j, hj, e⟩)
        · exact .inl (.inl h1)
        · by_cases hjk : j = k
          · subst hjk
            exact .inr (by simp [e])
          · exact .inl (.inr ⟨j, by omega, e⟩)
theorem bothTo_nodup {l o : List Nat} (hl : l.Nodup) : ∀ k, (bothTo l o k).Nodup := by
  intro k
  induction k with
  | zero => exact hl
  | succ k ih =>
    unfold bothTo
    by_cases h : app o k ∈ bothTo l o k
    · rw [if_pos h]; exact ih
    · rw [if_neg h, List.nodup_append]
      exact ⟨ih, by simp, fun x hx y hy e => by simp at hy; subst hy; subst e; exact h hx⟩
theorem bothTo_len {l o : List Nat} : ∀ k, (bothTo l o k).length ≤ l.length + k := by
  intro k
  induction k with
  | zero => simp [bothTo]
  | succ k ih =>
    unfold bothTo
    split
    · omega
    · simp; omega
theorem mem_both {l o : List Nat} {x : Nat} : x ∈ bothTo l o o.length ↔ x ∈ l ∨ x ∈ o := by
  rw [mem_bothTo (Nat.le_refl _)]
  refine or_congr_right ⟨?_, ?_⟩
  · rintro ⟨j, hj, rfl⟩; exact app_mem hj
  · intro h; exact mem_app h
theorem def_both {n : Nat} {G : List (List Nat)} (hG : Grp n G) {l : List Nat} (h : defL n G l = true) {x : Nat} (hx : x < n) : defL n G (bothTo l (orbL n G x) (orbL n G x).length) = true := by
  rw [defL_iff] at h ⊢
  intro y hy z hz
  rcases mem_both.1 hy with h1 | h1
  · exact mem_both.2 (.inl (h y h1 z hz))
  · exact mem_both.2 (.inr (orb_sub hG hx h1 hz))

end Pl

theorem mem_natsI {ns : List Nat} {x : Nat} : (x : Int) ∈ natsI ns ↔ x ∈ ns := by
  unfold natsI
  rw [List.mem_map]
  constructor
  · rintro ⟨y, hy, e⟩
    have : y = x := by omega
    exact this ▸ hy
  · intro h; exact ⟨x, h, rfl⟩

theorem defB_nat {a : St} (ha : a.ok) {ns : List Nat} (hlt : ∀ x ∈ ns, x < a.n) (hnd : ns.Nodup) : defB a.n (bs a.set) (bs a.rel) (natsI ns) = defL a.n (isos a a) ns := by
  have h1 := okB_true ha
  have hel : ∀ x, x < a.n → elB (a.n : Int) (x : Nat) = true := fun x hx => by
    unfold elB
    rw [decide_eq_true (by omega), decide_eq_true (by omega)]; rfl
  have h2 : elAll (a.n : Int) (natsI ns) = true := List.all_eq_true.2 fun z hz => by
    obtain ⟨x, hx, rfl⟩ := List.mem_map.1 hz
    exact hel x (hlt x hx)
  have h3 : nodB (natsI ns) = true := decide_eq_true (map_nodup _ hnd fun x _ y _ e => by omega)
  unfold defB
  rw [h1, h2, h3, Bool.true_and, Bool.true_and, Bool.true_and, Bool.eq_iff_iff, defL_iff, List.all_eq_true]
  have ho : ∀ x, x < a.n → orbV a.n (bs a.set) (bs a.rel) (x : Nat) = orbL a.n (isos a a) x := fun x hx => by
    unfold orbV; rw [h1, hel x hx, ofSt_eq]; rfl
  constructor
  · intro h x hx y hy
    have := h (x : Int) (mem_natsI.2 hx)
    unfold goodB at this
    rw [ho x (hlt x hx)] at this
    exact mem_natsI.1 (of_decide_eq_true (List.all_eq_true.1 this y hy))
  · intro h z hz
    obtain ⟨x, hx, rfl⟩ := List.mem_map.1 hz
    unfold goodB
    rw [ho x (hlt x hx)]
    exact List.all_eq_true.2 fun y hy => decide_eq_true (mem_natsI.2 (h x hx y hy))

theorem defB_out {a : St} (ha : a.ok) {zs : List Int} (h : defB a.n (bs a.set) (bs a.rel) zs = true) : ∃ ns : List Nat, zs = natsI ns ∧ (∀ x ∈ ns, x < a.n) ∧ ns.Nodup ∧ defL a.n (isos a a) ns = true := by
  have h0 := h
  unfold defB at h
  simp only [Bool.and_eq_true] at h
  obtain ⟨ns, rfl, hlt, hnd, _, _⟩ := nats_of h.2.1 h.2.2.1
  exact ⟨ns, rfl, hlt, hnd, by rw [← defB_nat ha hlt hnd]; exact h0⟩

/-- the elements that are not in a list of numbers -/
def restZ (zs : List Int) (k : Nat) : List Nat := (List.range k).filter fun x => !decide ((x : Int) ∈ zs)
theorem restZ_succ (zs : List Int) (k : Nat) : restZ zs (k + 1) = if (k : Int) ∈ zs then restZ zs k else restZ zs k ++ [k] := by
  unfold restZ
  rw [List.range_succ, List.filter_append]
  by_cases h : (k : Int) ∈ zs <;> simp [h]
theorem restZ_len (zs : List Int) (k : Nat) : (restZ zs k).length ≤ k := by
  have := List.length_filter_le (fun x : Nat => !decide ((x : Int) ∈ zs)) (List.range k)
  simpa [restZ] using this
theorem restZ_nat (ns : List Nat) (k : Nat) : restZ (natsI ns) k = restTo ns k := by
  unfold restZ restTo
  apply List.filter_congr
  intro x _
  rw [decide_eq_decide.2 mem_natsI]

/-- a list of numbers with those of another one that it lacks -/
def bothZ (zs : List Int) (R : List Nat) : Nat → List Int
  | 0 => zs
  | k + 1 => if ((app R k : Nat) : Int) ∈ bothZ zs R k then bothZ zs R k else bothZ zs R k ++ [((app R k : Nat) : Int)]
theorem bothZ_succ (zs : List Int) (R : List Nat) (k : Nat) : bothZ zs R (k + 1) = if ((app R k : Nat) : Int) ∈ bothZ zs R k then bothZ zs R k else bothZ zs R k ++ [((app R k : Nat) : Int)] := rfl
theorem bothZ_len (zs : List Int) (R : List Nat) : ∀ k, (bothZ zs R k).length ≤ zs.length + k := by
  intro k
  induction k with
  | zero => simp [bothZ]
  | succ k ih =>
    rw [bothZ_succ]
    split
    · omega
    · simp; omega
theorem bothZ_nat (ns R : List Nat) : ∀ k, bothZ (natsI ns) R k = natsI (bothTo ns R k) := by
  intro k
  induction k with
  | zero => rfl
  | succ k ih =>
    rw [bothZ_succ, ih, show bothTo ns R (k + 1) = if app R k ∈ bothTo ns R k then bothTo ns R k else bothTo ns R k ++ [app R k] from rfl]
    by_cases h : app R k ∈ bothTo ns R k
    · rw [if_pos h, if_pos (mem_natsI.2 h)]
    · rw [if_neg h, if_neg (fun hq => h (mem_natsI.1 hq))]
      simp [natsI]

theorem orbV_nat {a : St} (ha : a.ok) {x : Nat} (hx : x < a.n) : orbV a.n (bs a.set) (bs a.rel) (x : Nat) = orbL a.n (isos a a) x := by
  unfold orbV
  rw [okB_true ha, show elB (a.n : Int) (x : Nat) = true by unfold elB; rw [decide_eq_true (by omega), decide_eq_true (by omega)]; rfl, ofSt_eq]
  rfl
theorem defB_orbit {a : St} (ha : a.ok) {x : Nat} (hx : x < a.n) : defB a.n (bs a.set) (bs a.rel) (natsI (orbV a.n (bs a.set) (bs a.rel) (x : Nat))) = true := by
  rw [orbV_nat ha hx, defB_nat ha (fun y hy => orb_lt hy) (orbL_nodup _ _ _)]
  exact def_orbit (aut_grp a) hx
theorem defB_rest {a : St} (ha : a.ok) {zs : List Int} (h : defB a.n (bs a.set) (bs a.rel) zs = true) : defB a.n (bs a.set) (bs a.rel) (natsI (restZ zs a.n)) = true := by
  obtain ⟨ns, rfl, hlt, hnd, hd⟩ := defB_out ha h
  rw [restZ_nat, defB_nat ha (fun y hy => (mem_restTo.1 hy).1) (restTo_nodup _ _)]
  exact def_rest (aut_grp a) hd
theorem defB_both {a : St} (ha : a.ok) {zs : List Int} (h : defB a.n (bs a.set) (bs a.rel) zs = true) {x : Nat} (hx : x < a.n) :
    defB a.n (bs a.set) (bs a.rel) (bothZ zs (orbV a.n (bs a.set) (bs a.rel) (x : Nat)) (orbV a.n (bs a.set) (bs a.rel) (x : Nat)).length) = true := by
  obtain ⟨ns, rfl, hlt, hnd, hd⟩ := defB_out ha h
  rw [orbV_nat ha hx, bothZ_nat, defB_nat ha (fun y hy => ?_) (bothTo_nodup hnd _)]
  · exact def_both (aut_grp a) hd hx
  · rcases mem_both.1 hy with h1 | h1
    · exact hlt y h1
    · exact orb_lt h1

end Go.Proofs.YtgnmlijfenjehaaDoor
