/-
  Plain facts on orbits: the reference's way to find one, and what the laws say of orbits and shapes. No condition.
-/
import Derived.Test.YtgnmlijfenjehaaDoorPerms
namespace Go.Proofs.YtgnmlijfenjehaaDoor
namespace Pl

theorem part_iso {a : St} {m : List Nat} (hm : IsPerm a.n m) : m ∈ isos a (a.part m) := by
  have hl := hm.len
  refine mem_isos_iff.2 ⟨hm, fun i hi => ?_, fun i j hi hj => ?_⟩
  · unfold St.part
    rw [mkSt_inS (by omega)]
    rfl
  · unfold St.part
    rw [mkSt_inR (by omega) (by omega)]
    rfl

/-- an element, and behind it all others -/
def frontL (n x : Nat) : List Nat := x :: (List.range n).filter fun y => y != x

theorem front_perm {n x : Nat} (hx : x < n) : IsPerm n (frontL n x) := by
  have hnd : (frontL n x).Nodup := by
    unfold frontL
    rw [List.nodup_cons]
    exact ⟨by simp, List.nodup_range.filter _⟩
  have hlt : ∀ y ∈ frontL n x, y < n := by
    intro y hy
    unfold frontL at hy
    rcases List.mem_cons.1 hy with rfl | hy
    · exact hx
    · exact List.mem_range.1 (List.mem_filter.1 hy).1
  refine ⟨?_, hnd, hlt⟩
  have h := nodup_len_eq hnd (List.nodup_range (n := n)) (fun y => ⟨fun hy => List.mem_range.2 (hlt y hy), fun hy => by
    unfold frontL
    by_cases e : y = x
    · subst e; simp
    · exact List.mem_cons_of_mem _ (List.mem_filter.2 ⟨hy, by simpa using e⟩)⟩)
  simpa using h

/-- the elements that the reference finds -/
def orbS (a : St) (x : Nat) : List Nat := (List.range a.n).filter fun y => a.inS y == a.inS x && (a.inR y y == a.inR x x && !(shapes a (a.part (frontL a.n x)) (a.n - 1) [y]).isEmpty)

theorem orbS_eq {a : St} {x : Nat} (hx : x < a.n) : orbS a x = orbL a.n (isos a a) x := by
  unfold orbS orbL
  refine List.filter_congr fun y hy => ?_
  have hy := List.mem_range.1 hy
  have hm := front_perm hx
  have hmi := part_iso (a := a) hm
  have hml := hm.len
  have hbn : (a.part (frontL a.n x)).n = a.n := hml
  have hab : a.n = (a.part (frontL a.n x)).n := hbn.symm
  have h0 : 0 < a.n := by omega
  have hm0 : app (frontL a.n x) 0 = x := rfl
  obtain ⟨_, hmS, hmR⟩ := mem_isos_iff.1 hmi
  rw [Bool.eq_iff_iff]
  simp only [Bool.and_eq_true, beq_iff_eq, Bool.not_eq_true', List.any_eq_true]
  constructor
  · rintro ⟨h1, h2, h3⟩
    obtain ⟨l, hl⟩ : ∃ l, l ∈ shapes a (a.part (frontL a.n x)) (a.n - 1) [y] := by
      cases hs : shapes a (a.part (frontL a.n x)) (a.n - 1) [y] with
      | nil => rw [hs] at h3; cases h3
      | cons l L => exact ⟨l, by simp⟩
    have hf : Fits a (a.part (frontL a.n x)) [y] := by
      refine ⟨by simp, by simpa using hy, fun i hi => ?_, fun i j hi hj => ?_⟩
      · simp only [List.length_singleton] at hi
        obtain rfl : i = 0 := by omega
        rw [← hmS 0 h0, hm0, ← h1]; rfl
      · simp only [List.length_singleton] at hi hj
        obtain rfl : i = 0 := by omega
        obtain rfl : j = 0 := by omega
        rw [← hmR 0 0 h0 h0, hm0, ← h2]; rfl
    obtain ⟨t, rfl, ht, hfl⟩ := (mem_shapes _ _ _ hf).1 hl
    have hli : [y] ++ t ∈ isos a (a.part (frontL a.n x)) := mem_isos.2 ⟨by simp [ht]; omega, hfl⟩
    refine ⟨_, iso_comp hab hli (iso_inv hab hmi), ?_⟩
    have e : app (inv (frontL a.n x)) x = 0 := by
      have := inv_app hm h0
      rwa [hm0] at this
    rw [app_comp (by rw [len_inv, hml]; exact hx), e]
    rfl
  · rintro ⟨l, hl, rfl⟩
    obtain ⟨hp, hS, hR⟩ := mem_isos_iff.1 hl
    refine ⟨hS x hx, hR x x hx hx, ?_⟩
    have hli := iso_comp rfl hl hmi
    have hlen : (comp l (frontL a.n x)).length = a.n := by rw [len_comp, hml]
    have happ : app (comp l (frontL a.n x)) 0 = app l x := by rw [app_comp (by rw [hml]; exact h0), hm0]
    obtain ⟨t, ht⟩ : ∃ t, comp l (frontL a.n x) = app l x :: t := by
      cases hc : comp l (frontL a.n x) with
      | nil => rw [hc] at hlen; simp at hlen; omega
      | cons z t => rw [hc] at happ; exact ⟨t, by rw [show z = app l x from happ]⟩
    rw [ht] at hli hlen
    obtain ⟨_, hfit⟩ := mem_isos.1 hli
    have hmem : app l x :: t ∈ shapes a (a.part (frontL a.n x)) (a.n - 1) [app l x] :=
      (mem_shapes _ _ _ (Fits.prefix t (by simpa using hfit))).2 ⟨t, rfl, by simp at hlen; omega, hfit⟩
    cases hs : shapes a (a.part (frontL a.n x)) (a.n - 1) [app l x] with
    | nil => rw [hs] at hmem; cases hmem
    | cons l L => rfl

end Pl
end Go.Proofs.YtgnmlijfenjehaaDoor
