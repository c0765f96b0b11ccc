/-
  Laws of the functions that the claim reaches, one after the other (packed by a program of the prover's: Reg3, Part, Placed, EachA, App, Draw7, Draw10, DrawH, Map, Plain). Conditions: texts below the reach.
-/
import Derived.Test.YtgiaebeoldigbaaDoorPm0
import Derived.Maps.AppendAt
import Derived.Deep.DrawnRows
import Derived.Test.YtgiaebeoldigbaaDoorPm2
import Derived.Deep.AppendLies
import Derived.Maps.Own
import Derived.LaidEqlPtr
import Derived.Deep.RegionLawGrows
import Derived.KernelRfl
set_option linter.unusedSimpArgs false
set_option linter.unusedVariables false

namespace Go.Proofs.YtgiaebeoldigbaaDoor
namespace R3
open Go.RowKit
set_option linter.unusedVariables false

/-- orders: an operation that is taken first, one that alone may come up, two that may -/
inductive Tr where
  | nil
  | take (i : Nat) (t : Tr)
  | one (i : Nat) (t : Tr)
  | two (i j : Nat) (t u : Tr)

section
variable {P : Program} {ops : Array Oper} {Q : Exit → Act → World → Prop} {md : Region.Mode} {S : World → Prop}

def okR (md : Region.Mode) (ops : Array Oper) : Tr → Nat → Array Bool → Bool
  | .nil, n, l => n == 0 && (Region.ready md ops l).isEmpty
  | .take i t, n, l => n != 0 && (Region.free md ops l i && ((Region.ready md ops l).contains i && okR md ops t (n - 1) (l.setIfInBounds i true)))
  | .one i t, n, l => n != 0 && ((Region.ready md ops l == [i]) && okR md ops t (n - 1) (l.setIfInBounds i true))
  | .two i j t u, n, l => n != 0 && ((Region.ready md ops l == [i, j]) && (okR md ops t (n - 1) (l.setIfInBounds i true) && okR md ops u (n - 1) (l.setIfInBounds j true)))

def wpR (P : Program) (ops : Array Oper) (Q : Exit → Act → World → Prop) (S : World → Prop) : Tr → Act → World → Prop
  | .nil, a, w => Q .normal a w
  | .take i t, a, w => ∃ o v, ops[i]? = some o ∧ YieldsIf P ops S o v a ∧ wpR P ops Q S t (a.put o.dst v) w
  | .one i t, a, w => wpOp P ops Q i (fun a' w' => S w' ∧ wpR P ops Q S t a' w') a w
  | .two i j t u, a, w => wpOp P ops Q i (fun a' w' => S w' ∧ wpR P ops Q S t a' w') a w ∧ wpOp P ops Q j (fun a' w' => S w' ∧ wpR P ops Q S u a' w') a w

theorem anyH_tree (hs : Region.noSelect ops = true) (hQ : ∀ t c a w, Q (.panic c) { a with tmps := t } w → Q (.panic c) a w) :
    ∀ (t : Tr) (n : Nat) (l : Array Bool) (a : Act) (w : World), okR md ops t n l = true → S w → wpR P ops Q S t a w → wpAnyH P md ops Q S n l a w := by
  intro t
  induction t with
  | nil =>
    intro n l a w h _ hw
    simp only [okR, Bool.and_eq_true, beq_iff_eq, List.isEmpty_iff] at h
    obtain ⟨rfl, h2⟩ := h
    exact ⟨h2, hw⟩
  | take i t ih =>
    intro n l a w h hS hw
    simp only [okR, Bool.and_eq_true, bne_iff_ne] at h
    obtain ⟨hn, h1, h2, h3⟩ := h
    obtain ⟨m, rfl⟩ : ∃ m, n = m + 1 := ⟨n - 1, by omega⟩
    obtain ⟨o, v, ho, hy, hr⟩ := hw
    exact wpAnyH_take ho hs h1 h2 (fun c a w h => by cases hd : o.dst with | none => rw [hd] at h; exact h | some d => rw [hd] at h; exact hQ _ c a w h) hy hS (ih _ _ _ _ h3 hS hr)
  | one i t ih =>
    intro n l a w h hS hw
    simp only [okR, Bool.and_eq_true, bne_iff_ne, beq_iff_eq] at h
    obtain ⟨hn, h1, h3⟩ := h
    obtain ⟨m, rfl⟩ : ∃ m, n = m + 1 := ⟨n - 1, by omega⟩
    refine wpAnyH_all h1 (by simp) fun j hj => ?_
    obtain rfl : j = i := by simpa using hj
    exact wpOp_mono (fun a' w' hk => ⟨hk.1, ih _ _ _ _ h3 hk.1 hk.2⟩) hw
  | two i j t u iht ihu =>
    intro n l a w h hS hw
    simp only [okR, Bool.and_eq_true, bne_iff_ne, beq_iff_eq] at h
    obtain ⟨hn, h1, h3, h4⟩ := h
    obtain ⟨m, rfl⟩ : ∃ m, n = m + 1 := ⟨n - 1, by omega⟩
    refine wpAnyH_all h1 (by simp) fun k hk => ?_
    have hk2 : k = i ∨ k = j := by simpa using hk
    rcases hk2 with rfl | rfl
    · exact wpOp_mono (fun a' w' hk => ⟨hk.1, iht _ _ _ _ h3 hk.1 hk.2⟩) hw.1
    · exact wpOp_mono (fun a' w' hk => ⟨hk.1, ihu _ _ _ _ h4 hk.1 hk.2⟩) hw.2

/-- the same, behind a name that nothing unfolds -/
structure Sd (P : Program) (ops : Array Oper) (Q : Exit → Act → World → Prop) (S : World → Prop) (t : Tr) (a : Act) (w : World) : Prop where
  out : wpR P ops Q S t a w

theorem region_tree {id : Nat} {a : Act} {w : World} (t : Tr) (S : World → Prop) (hm : P.follows .mixedOrders = true) (hs : Region.noSelect ops = true)
    (hk : okR .any ops t ops.size (Array.replicate ops.size false) = true) (hQ : ∀ t c a w, Q (.panic c) { a with tmps := t } w → Q (.panic c) a w) (hS : S w.drew)
    (h : ∀ Q' : Exit → Act → World → Prop, Hid (∀ a' w', Q .normal a' w' → Q' .normal a' w') → Sd P ops Q' S t a w.drew) : (Code.region id ops true).wp P Q a w :=
  wp_region_held (S := S) hm (anyH_tree (md := .any) (S := S) hs hQ t ops.size _ a w.drew hk hS (h Q (Lib.hid fun _ _ h => h)).out)

theorem tree_take {i : Nat} {t : Tr} {a : Act} {w : World} {o : Oper} {v : Value} {a' : Act} (ho : ops[i]? = some o) (hw : Region.wanted o (yielded ops a.tmps) = true) (hy : ∀ w, S w → (execOp a.eval o).run P w = .ok (.value v) w)
    {d : Tmp} (hd : o.dst = some d) (ha : a.put (some d) v = a') (h : Sd P ops Q S t a' w) : Sd P ops Q S (.take i t) a w := ⟨⟨o, v, ho, .inl ⟨hw, hy⟩, by rw [hd, ha]; exact h.out⟩⟩
theorem tree_one {i : Nat} {t : Tr} {a : Act} {w : World} {o : Oper} (ho : ops[i]? = some o) (hw : Region.wanted o (yielded ops a.tmps) = true)
    (h : ∀ K : Act → World → Prop, Hid (∀ a' w', S w' → Sd P ops Q S t a' w' → K a' w') → o.wp P a w K Q) : Sd P ops Q S (.one i t) a w := by
  refine ⟨?_⟩
  show wpOp P ops Q i _ a w
  unfold wpOp
  simp only [ho, hw, if_true]
  exact .inl (h _ (Lib.hid fun _ _ h1 h2 => ⟨h1, h2.out⟩))
theorem tree_two {i j : Nat} {t u : Tr} {a : Act} {w : World} (h1 : Sd P ops Q S (.one i t) a w) (h2 : Sd P ops Q S (.one j u) a w) : Sd P ops Q S (.two i j t u) a w := ⟨⟨h1.out, h2.out⟩⟩
theorem tree_lay {t : Tr} {a a' : Act} {w : World} (ha : a = a') (h : Sd P ops Q S t a' w) : Sd P ops Q S t a w := by rw [ha]; exact h
theorem tree_done {a : Act} {w : World} (h : Q .normal a w) : Sd P ops Q S .nil a w := ⟨h⟩

/-- an append, at an operation -/
theorem wp_app {o : Oper} {a : Act} {w : World} {K : Act → World → Prop} (s x : Operand) (t : TypeId)
    (ho : o.op = .call { callee := .builtin .append, args := #[s, x], argTypes := #[t, t] })
    (base : Nat) (e : TypeId) (i : TypeInfo) (z : Value) (size bytes : Nat) (ht : P.underlying t = some (.slice e)) (hi : P.info? e = some i) (hz : i.zero = some z)
    (hsize : i.size = size) (hby : i.bytes = bytes) (hzs : z.cells.size = size) (hsz : 0 < size)
    (v : Value) (n : Nat) (xs : List Value) (hs : a.eval s = v) (hown : w.ownsRow base e size v n xs)
    (ad : Addr) (m c : Nat) (news : List Value) (hx : a.eval x = .slice (some ad) m c) (hl : news.length = m * size) (hnews : ∀ j u, news[j]? = some u → w.cell? (ad.add j) = some u) (h1 : ∀ u ∈ news, u.oneCell' = true)
    (h63 : n + m ≤ maxLen) (hbytes : (n + m) * bytes ≤ 140737488355328) (hbase : base ≤ w.heap.size)
    (h : ∀ v' w', w'.ownsRow base e size v' (n + m) (xs ++ news) → w.grownBy w' v.ownBlock → K (a.put o.dst v') w') : o.wp P a w K Q := by
  obtain ⟨v', w', hr, h2, h3, _, _⟩ := run_append_own_at (P := P) w base t o.type e i z size bytes ht hi hz hsize hby hzs hsz v n xs hown ad m c news hl hnews h1 h63 hbytes hbase
  unfold Oper.wp execOp
  simp only [ho, resolve, invoke, builtin, Sem.run_bind, Sem.run_pure, Result.andThen_ok, List.map_toArray, List.map_cons, List.map_nil, hs, hx, hr]
  exact h v' w' h2 h3
end
end R3
end Go.Proofs.YtgiaebeoldigbaaDoor

namespace Go.Proofs.YtgiaebeoldigbaaDoor
open Go.RowKit
open Pl
set_option linter.unusedSimpArgs false
set_option linter.unusedVariables false

theorem notEl_calls (i x : Int) (s r : ByteArray) (bb : Nat) (w : World) (hb : Bx w bb 24 #[.int .i64 i, .string s, .string r]) :
    Calls Tryd.prog 76 #[.int .i64 x, .pointer (some ⟨bb, 0, none⟩)] w fun e w' => e = .returned (.bool (!elB i x)) ∧ Below w.heap.size w w' := by
  obtain ⟨k0, k1, k2⟩ := box_load hb
  clear hb
  unfold elB
  by_cases h0 : 0 ≤ x
  · have d0 : decide (x < 0) = false := decide_eq_false (by omega)
    rw [decide_eq_true h0]
    have hv : (!(true && decide (x < i))) = decide (i ≤ x) := by
      rw [Bool.true_and, ← decide_not, decide_eq_decide]; omega
    rw [hv]
    clear hv
    go_enter Tryd.func76, Tryd.ntmps76
    go_wp2_with fail
    all_goals
      go_ret
      exact ⟨rfl, Below.refl _ _⟩
  · have d0 : decide (x < 0) = true := decide_eq_true (by omega)
    rw [decide_eq_false h0]
    go_enter Tryd.func76, Tryd.ntmps76
    go_wp2_with fail
    all_goals
      go_ret
      exact ⟨rfl, Below.refl _ _⟩

set_option maxHeartbeats 400000 in
theorem IndexFunc_calls (A : Option Addr) (zs : List Int) (cap : Nat) (p : Int → Bool) (F : FuncId) (fF cF : Array Value) (w : World) (hn : zs.length ≤ 1048576) (hA : LRow w A zs)
    (eF : ∀ (args : Array Value) (W : World), (callFunc F args).run Tryd.prog W = .ok (.enter F args) W)
    (hF : ∀ (x : Int) (W : World), x ∈ zs → Below w.heap.size w W → Calls Tryd.prog F (fF.push (.int .i64 x) ++ cF) W fun e W' => e = .returned (.bool (p x)) ∧ Below W.heap.size W W') :
    Calls Tryd.prog 96 #[.slice A zs.length cap, .func (.func F) fF cF] w fun e w' => (∃ m : Int, e = .returned (.int .i64 m) ∧ (0 ≤ m ↔ zs.any p = true)) ∧ Below w.heap.size w w' := by
  have HA := Lib.hid hA
  have HF := Lib.hid hF
  clear hA hF
  go_enter Tryd.func96, Tryd.ntmps96
  go_wp2_with fail
  go_loopg [8] zs.length (fun c i wr => ∃ k : Nat, k + c = zs.length ∧ i = .int .i64 k ∧ (zs.take k).any p = false ∧ Below w.heap.size w wr)
  case atStart => exact ⟨0, by omega, rfl, rfl, Below.refl _ _⟩
  case round =>
    obtain ⟨k, hk, rfl, hno, hbr⟩ := hrel
    have Hno := Lib.hid hno
    have Hbr := Lib.hid hbr
    clear hno hbr
    by_cases hlt : k < zs.length
    · obtain ⟨g, rfl, hc⟩ := (HA.out.call Hbr.out) (by omega)
      have hck := hc k hlt
      have hmem := getD_mem hlt
      have htk : (zs.take (k + 1)).any p = ((zs.take k).any p || p (zs.getD k 0)) := by
        rw [List.take_succ_eq_append_getElem hlt, List.any_append]
        simp [List.getD, hlt]
      obtain ⟨z, hz⟩ : ∃ z, z = zs.getD k 0 := ⟨_, rfl⟩
      rw [← hz] at hck hmem htk
      have hcall := HF.out z wr hmem Hbr.out
      clear hc hz
      cases hp : p z with
      | true =>
        rw [hp] at hcall
        have hany : zs.any p = true := List.any_eq_true.2 ⟨z, hmem, hp⟩
        have Hany := Lib.hid hany
        have Hcall := Lib.hid hcall
        clear hcall hmem htk hp hany
        go_wp2_with fail
        refine (Hcall.out).mono ?_
        rintro e w2 ⟨rfl, hb2⟩
        go_wp2_with fail
        go_ret
        exact ⟨⟨_, rfl, ⟨fun _ => Hany.out, fun _ => by omega⟩⟩, Hbr.out.trans (hb2.mono Hbr.out.size)⟩
      | false =>
        rw [hp] at hcall htk
        have Hcall := Lib.hid hcall
        have Htk := Lib.hid htk
        clear hcall hmem htk hp
        go_wp2_with fail
        refine (Hcall.out).mono ?_
        rintro e w2 ⟨rfl, hb2⟩
        have Hb2 := Lib.hid hb2
        clear hb2
        go_wp2_with fail
        go_roundg (gk - 1)
        case rel => exact ⟨k + 1, by omega, by go_num, by rw [Htk.out, Hno.out]; rfl, Hbr.out.trans (Hb2.out.mono Hbr.out.size)⟩
        case measure => omega
    · have hall : zs.any p = false := by
        have := Hno.out
        rwa [List.take_of_length_le (by omega)] at this
      have Hall := Lib.hid hall
      clear hall
      go_wp2_with fail
      go_ret
      exact ⟨⟨_, rfl, ⟨fun h => absurd h (by decide), fun h => by rw [Hall.out] at h; cases h⟩⟩, Hbr.out⟩

theorem ContainsFunc_calls (A : Option Addr) (zs : List Int) (cap : Nat) (p : Int → Bool) (F : FuncId) (fF cF : Array Value) (w : World) (hn : zs.length ≤ 1048576) (hA : LRow w A zs)
    (eF : ∀ (args : Array Value) (W : World), (callFunc F args).run Tryd.prog W = .ok (.enter F args) W)
    (hF : ∀ (x : Int) (W : World), x ∈ zs → Below w.heap.size w W → Calls Tryd.prog F (fF.push (.int .i64 x) ++ cF) W fun e W' => e = .returned (.bool (p x)) ∧ Below W.heap.size W W') :
    Calls Tryd.prog 75 #[.slice A zs.length cap, .func (.func F) fF cF] w fun e w' => e = .returned (.bool (zs.any p)) ∧ Below w.heap.size w w' := by
  have hc := IndexFunc_calls A zs cap p F fF cF w hn hA eF hF
  have Hc := Lib.hid hc
  clear hc hA hF
  go_enter Tryd.func75, Tryd.ntmps75
  go_wp2_with fail
  refine (Hc.out).mono ?_
  rintro e w' ⟨⟨m, rfl, hm⟩, hb⟩
  have Hm := Lib.hid hm
  have Hb := Lib.hid hb
  clear hm hb
  go_wp2_with fail
  go_ret
  refine ⟨?_, Hb.out⟩
  show Ending.returned (.bool (decide (0 ≤ m))) = _
  congr 2
  rw [Bool.eq_iff_iff, decide_eq_true_eq]
  exact Hm.out

def elAll (i : Int) (zs : List Int) : Bool := zs.all (elB i)
def nodB (zs : List Int) : Bool := decide zs.Nodup

theorem enter_notEl : ∀ (args : Array Value) (w : World), (callFunc 76 args).run Tryd.prog w = .ok (.enter 76 args) w := enter_of Tryd.func76 (by kernel_rfl) (by kernel_rfl)

theorem areElements_calls (i : Int) (s r : ByteArray) (A : Option Addr) (zs : List Int) (cap : Nat) (w : World) (hn : zs.length ≤ 1048576) (hA : LRow w A zs) :
    Calls Tryd.prog 44 #[stV i s r, .slice A zs.length cap] w fun e w' => e = .returned (.bool (elAll i zs)) ∧ Below w.heap.size w w' := by
  have hx := Bx.new w 24 #[.int .i64 i, .string s, .string r]
  have hc := ContainsFunc_calls A zs cap (fun x => !elB i x) 76 #[] #[.pointer (some ⟨w.heap.size, 0, none⟩)] (w.alloc (.cells #[.int .i64 i, .string s, .string r] 24)) hn (hA.alloc _) enter_notEl
    (fun x W _ hW => notEl_calls i x s r w.heap.size W (hx.call hW))
  have hv : (!(zs.any fun x => !elB i x)) = elAll i zs := by
    unfold elAll
    rw [Bool.eq_iff_iff]
    simp [List.any_eq_true, List.all_eq_true]
  obtain ⟨b, hb⟩ : ∃ b, b = zs.any fun x => !elB i x := ⟨_, rfl⟩
  rw [← hb] at hc hv
  rw [← hv]
  have Hc := Lib.hid hc
  clear hc hA hx hv hb
  go_enter Tryd.func44, Tryd.ntmps44
  go_wp2_with fail
  refine (Hc.out).mono ?_
  rintro e w' ⟨rfl, hb⟩
  have HB := Lib.hid (box_next (box_refl w _) hb)
  clear hb
  go_wp2_with fail
  go_ret
  exact ⟨rfl, box_down HB.out⟩

set_option maxHeartbeats 400000 in
theorem allDifferent_calls (A : Option Addr) (zs : List Int) (cap : Nat) (w : World) (hn : zs.length ≤ 1048576) (hcap : zs.length ≤ cap) (hA : LRow w A zs) :
    Calls Tryd.prog 83 #[.slice A zs.length cap] w fun e w' => e = .returned (.bool (nodB zs)) ∧ w = w' := by
  have HA := Lib.hid hA
  clear hA
  obtain ⟨V, hV⟩ : ∃ V, V = nodB zs := ⟨_, rfl⟩
  rw [← hV]
  have HV := Lib.hid hV
  clear hV
  go_enter Tryd.func83, Tryd.ntmps83
  go_wp2_with fail
  go_loop [7] (fun i => ∃ k : Nat, k ≤ zs.length ∧ i = .int .i64 k ∧ (zs.take k).Nodup) (fun i => zs.length - (intOf i).toNat)
  case atStart => exact ⟨0, Nat.zero_le _, rfl, by simp⟩
  case round =>
    obtain ⟨k, hk, rfl, hnd⟩ := hrel
    have Hnd := Lib.hid hnd
    clear hnd
    by_cases hlt : k < zs.length
    · have hcon := Contains_calls A (zs.take k) cap (zs.getD k 0) w (by rw [List.length_take]; omega) (HA.out.take k)
      rw [List.length_take, Nat.min_eq_left (by omega)] at hcon
      have hstep : (zs.take (k + 1)).Nodup ↔ (zs.take k).Nodup ∧ ¬ zs.getD k 0 ∈ zs.take k := by
        rw [List.take_succ_eq_append_getElem hlt, List.nodup_append]
        have e : zs.getD k 0 = zs[k] := by simp [List.getD, hlt]
        rw [e]
        simp only [List.mem_singleton]
        constructor
        · rintro ⟨h1, _, h2⟩; exact ⟨h1, fun h => h2 _ h _ rfl rfl⟩
        · rintro ⟨h1, h2⟩; exact ⟨h1, by simp, fun x hx y hy e => by subst hy; subst e; exact h2 hx⟩
      obtain ⟨g, rfl, hc⟩ := HA.out (by omega)
      have hck := hc k hlt
      have hwh : zs.Nodup → (zs.take (k + 1)).Nodup := fun h => h.sublist (List.take_sublist _ _)
      have hkc : (k : Int) ≤ (cap : Int) := by omega
      obtain ⟨z, hz⟩ : ∃ z, z = zs.getD k 0 := ⟨_, rfl⟩
      rw [← hz] at hcon hck hstep
      clear hc hz
      by_cases hin : z ∈ zs.take k
      · rw [decide_eq_true hin] at hcon
        have hno : nodB zs = false := decide_eq_false fun h => (hstep.1 (hwh h)).2 hin
        have Hno := Lib.hid hno
        have Hcon := Lib.hid hcon
        clear hcon hstep hwh hin hno
        go_wp2_with fail
        refine (Hcon.out).mono ?_
        rintro e w' ⟨rfl, rfl⟩
        go_wp2_with fail
        go_ret
        exact ⟨by rw [HV.out, Hno.out]; rfl, rfl⟩
      · rw [decide_eq_false hin] at hcon
        have hnext := hstep.2 ⟨Hnd.out, hin⟩
        have Hnext := Lib.hid hnext
        have Hcon := Lib.hid hcon
        clear hcon hstep hwh hin hnext
        go_wp2_with fail
        refine (Hcon.out).mono ?_
        rintro e w' ⟨rfl, rfl⟩
        go_wp2_with fail
        go_round
        case rel => exact ⟨k + 1, by omega, by go_num, Hnext.out⟩
        case measure => simp [intOf]; omega
    · have hall : nodB zs = true := by
        have := Hnd.out
        rw [List.take_of_length_le (by omega)] at this
        exact decide_eq_true this
      have Hall := Lib.hid hall
      clear hall
      go_wp2_with fail
      go_ret
      exact ⟨by rw [HV.out, Hall.out]; rfl, rfl⟩

/-- numbers that are elements, as natural numbers -/
def natsI (ns : List Nat) : List Int := ns.map fun x : Nat => (x : Int)
theorem natsI_len (ns : List Nat) : (natsI ns).length = ns.length := by simp [natsI]
theorem natsI_get (ns : List Nat) (k : Nat) : (natsI ns).getD k 0 = ((ns.getD k 0 : Nat) : Int) := by
  unfold natsI
  simp only [List.getD_eq_getElem?_getD, List.getElem?_map]
  cases ns[k]? <;> rfl

theorem LRow.nats {w : World} {A : Option Addr} {ns : List Nat} (h : LRow w A (natsI ns)) {k : Nat} (hk : k < ns.length) : ∃ g, A = some ⟨g, 0, none⟩ ∧ w.cell? ⟨g, k, none⟩ = some (.int .i64 ((ns.getD k 0 : Nat) : Int)) := by
  obtain ⟨g, rfl, hc⟩ := h (by rw [natsI_len]; omega)
  exact ⟨g, rfl, by rw [hc k (by rw [natsI_len]; exact hk), natsI_get]⟩

theorem getD_lt {n : Nat} {ns : List Nat} (h : ∀ x ∈ ns, x < n) {k : Nat} (hk : k < ns.length) : ns.getD k 0 < n := h _ (by
  simp only [List.getD_eq_getElem?_getD, List.getElem?_eq_getElem hk, Option.getD_some]
  exact List.getElem_mem hk)

set_option maxHeartbeats 1000000 in
theorem part1_calls (a : St) (ha : a.ok) (ns : List Nat) (hns : ∀ x ∈ ns, x < a.n) (hl : ns.length ≤ 8) (A : Option Addr) (cap : Nat) (x : Nat) (hx : x < ns.length) (ba bl : Nat) (w : World)
    (hb : Bx w ba 24 #[.int .i64 a.n, .string (bs a.set), .string (bs a.rel)]) (hbl : Bx w bl 25 #[.slice A ns.length cap]) (hA : LRow w A (natsI ns)) :
    Calls Tryd.prog 102 #[.int .i64 x, .pointer (some ⟨ba, 0, none⟩), .pointer (some ⟨bl, 0, none⟩)] w fun e w' => e = .returned (.bool (a.inS (ns.getD x 0))) ∧ Below w.heap.size w w' := by
  obtain ⟨k0, k1, k2⟩ := box_load hb
  have l0 := hbl.cell 0
  simp at l0
  obtain ⟨g, rfl, c0⟩ := hA.nats hx
  have hlt := getD_lt hns hx
  have hcall := fun W => inSet_calls a ha (ns.getD x 0) hlt W
  generalize ns.getD x 0 = y at c0 hlt hcall
  generalize ns.length = n at l0 hx hl
  have Hcall := Lib.hid hcall
  have i1 : (0 : Int) ≤ (x : Int) := by omega
  have i2 : (x : Int) < (n : Int) := by omega
  clear hb hbl hA hcall
  go_enter Tryd.func102, Tryd.ntmps102
  go_wp2_with fail
  go_region_held3 (fun w' => w'.cell? ⟨ba, 0, none⟩ = some (.int .i64 a.n) ∧ w'.cell? ⟨ba, 1, none⟩ = some (.string (bs a.set)) ∧ w'.cell? ⟨ba, 2, none⟩ = some (.string (bs a.rel)) ∧ w'.cell? ⟨bl, 0, none⟩ = some (.slice (some ⟨g, 0, none⟩) n cap) ∧ w'.cell? ⟨g, x, none⟩ = some (.int .i64 y)) (first | go_keep | exact ⟨m0, m1, m2, m3, m4⟩) (first | (go_at_call 53; (with_reducible refine (Hcall.out _).mono ?_); rintro e w2 ⟨rfl, hz⟩; have m0 := (hz.cell (World.block_lt_of_cell? _ _ k0)).trans k0; have m1 := (hz.cell (World.block_lt_of_cell? _ _ k1)).trans k1; have m2 := (hz.cell (World.block_lt_of_cell? _ _ k2)).trans k2; have m3 := (hz.cell (World.block_lt_of_cell? _ _ l0)).trans l0; have m4 := (hz.cell (World.block_lt_of_cell? _ _ c0)).trans c0; have Hz := Lib.hid hz; clear hz))
  all_goals
    go_wp2_with fail
    go_ret
    exact ⟨rfl, (Below.refl w.heap.size w).drew.trans (Hz.out.mono (Nat.le_refl _))⟩

set_option maxHeartbeats 1000000 in
theorem part2_calls (a : St) (ha : a.ok) (ns : List Nat) (hns : ∀ x ∈ ns, x < a.n) (hl : ns.length ≤ 8) (A : Option Addr) (cap : Nat) (x x2 : Nat) (hx : x < ns.length) (hx2 : x2 < ns.length) (ba bl : Nat) (w : World)
    (hb : Bx w ba 24 #[.int .i64 a.n, .string (bs a.set), .string (bs a.rel)]) (hbl : Bx w bl 25 #[.slice A ns.length cap]) (hA : LRow w A (natsI ns)) :
    Calls Tryd.prog 103 #[.int .i64 x, .int .i64 x2, .pointer (some ⟨ba, 0, none⟩), .pointer (some ⟨bl, 0, none⟩)] w fun e w' => e = .returned (.bool (a.inR (ns.getD x 0) (ns.getD x2 0))) ∧ Below w.heap.size w w' := by
  obtain ⟨k0, k1, k2⟩ := box_load hb
  have l0 := hbl.cell 0
  simp at l0
  obtain ⟨g, rfl, c0⟩ := hA.nats hx
  obtain ⟨g', hg', c1⟩ := hA.nats hx2
  obtain rfl : g = g' := by injection hg' with h; injection h
  have hlt := getD_lt hns hx
  have hlt2 := getD_lt hns hx2
  have hcall := fun W => inRel_calls a ha (ns.getD x 0) (ns.getD x2 0) hlt hlt2 W
  generalize ns.getD x 0 = y at c0 hlt hcall
  generalize ns.getD x2 0 = y2 at c1 hlt2 hcall
  generalize ns.length = n at l0 hx hx2 hl
  have Hcall := Lib.hid hcall
  have i1 : (0 : Int) ≤ (x : Int) := by omega
  have i2 : (x : Int) < (n : Int) := by omega
  have i3 : (0 : Int) ≤ (x2 : Int) := by omega
  have i4 : (x2 : Int) < (n : Int) := by omega
  clear hb hbl hA hcall hg'
  go_enter Tryd.func103, Tryd.ntmps103
  go_wp2_with fail
  go_region_held3 (fun w' => w'.cell? ⟨ba, 0, none⟩ = some (.int .i64 a.n) ∧ w'.cell? ⟨ba, 1, none⟩ = some (.string (bs a.set)) ∧ w'.cell? ⟨ba, 2, none⟩ = some (.string (bs a.rel)) ∧ w'.cell? ⟨bl, 0, none⟩ = some (.slice (some ⟨g, 0, none⟩) n cap) ∧ w'.cell? ⟨g, x, none⟩ = some (.int .i64 y) ∧ w'.cell? ⟨g, x2, none⟩ = some (.int .i64 y2)) (first | go_keep | exact ⟨m0, m1, m2, m3, m4, m5⟩) (first | (go_at_call 54; (with_reducible refine (Hcall.out _).mono ?_); rintro e w2 ⟨rfl, hz⟩; have m0 := (hz.cell (World.block_lt_of_cell? _ _ k0)).trans k0; have m1 := (hz.cell (World.block_lt_of_cell? _ _ k1)).trans k1; have m2 := (hz.cell (World.block_lt_of_cell? _ _ k2)).trans k2; have m3 := (hz.cell (World.block_lt_of_cell? _ _ l0)).trans l0; have m4 := (hz.cell (World.block_lt_of_cell? _ _ c0)).trans c0; have m5 := (hz.cell (World.block_lt_of_cell? _ _ c1)).trans c1; have Hz := Lib.hid hz; clear hz))
  all_goals
    go_wp2_with fail
    go_ret
    exact ⟨rfl, (Below.refl w.heap.size w).drew.trans (Hz.out.mono (Nat.le_refl _))⟩

theorem enter_part1 : ∀ (args : Array Value) (w : World), (callFunc 102 args).run Tryd.prog w = .ok (.enter 102 args) w := enter_of Tryd.func102 (by kernel_rfl) (by kernel_rfl)
theorem enter_part2 : ∀ (args : Array Value) (w : World), (callFunc 103 args).run Tryd.prog w = .ok (.enter 103 args) w := enter_of Tryd.func103 (by kernel_rfl) (by kernel_rfl)

set_option maxHeartbeats 1000000 in
theorem partOf_calls (a : St) (ha : a.ok) (ns : List Nat) (hns : ∀ x ∈ ns, x < a.n) (hl : ns.length ≤ 8) (A : Option Addr) (cap : Nat) (w : World) (hA : LRow w A (natsI ns)) :
    Calls Tryd.prog 84 #[stA a, .slice A ns.length cap] w fun e w' => e = .returned (stA (a.part ns)) ∧ Below w.heap.size w w' := by
  have HA := Lib.hid hA
  clear hA
  have hmk : ∀ W, Below (w.heap.size + 2) ((w.alloc (.cells #[.int .i64 a.n, .string (bs a.set), .string (bs a.rel)] 24)).alloc (.cells #[.slice A ns.length cap] 25)) W → Calls Tryd.prog 101 #[.int .i64 ns.length, .func (.func 102) #[] #[.pointer (some ⟨w.heap.size, 0, none⟩), .pointer (some ⟨w.heap.size + 1, 0, none⟩)], .func (.func 103) #[] #[.pointer (some ⟨w.heap.size, 0, none⟩), .pointer (some ⟨w.heap.size + 1, 0, none⟩)]] W fun e w' => e = .returned (stA (a.part ns)) ∧ Below W.heap.size W w' := fun W hW => by
    have x0 := ((Bx.new w 24 #[.int .i64 a.n, .string (bs a.set), .string (bs a.rel)]).alloc (.cells #[.slice A ns.length cap] 25)).below hW (by omega)
    have x1 := (bx_two w (.cells #[.int .i64 a.n, .string (bs a.set), .string (bs a.rel)] 24) #[.slice A ns.length cap] (t := 25)).below hW (by omega)
    have hA1 : LRow W A (natsI ns) := ((HA.out.alloc _).alloc _).call (hW.mono (by simp))
    exact makeStructure_calls ns.length hl (fun x => a.inS (ns.getD x 0)) (fun x y => a.inR (ns.getD x 0) (ns.getD y 0)) 102 103 #[] #[.pointer (some ⟨w.heap.size, 0, none⟩), .pointer (some ⟨w.heap.size + 1, 0, none⟩)] #[] #[.pointer (some ⟨w.heap.size, 0, none⟩), .pointer (some ⟨w.heap.size + 1, 0, none⟩)] W enter_part1 enter_part2
      (fun x V hx hV => part1_calls a ha ns hns hl A cap x hx _ _ V (x0.call hV) (x1.call hV) (hA1.call hV))
      (fun x y V hx hy hV => part2_calls a ha ns hns hl A cap x y hx hy _ _ V (x0.call hV) (x1.call hV) (hA1.call hV))
  have Hmk := Lib.hid hmk
  clear hmk
  have hn8 : (ns.length : Int) ≤ 8 := by omega
  go_enter Tryd.func84, Tryd.ntmps84
  go_wp2_with fail
  refine (Hmk.out _ ((Below.refl _ _).alloc (by simp) _)).mono ?_
  rintro e w2 ⟨rfl, hz⟩
  have xr : Bx w2 (w.heap.size + 2) 24 #[.int .i64 0, .string (bs []), .string (bs [])] := by
    have h := Bx.new ((w.alloc (.cells #[.int .i64 a.n, .string (bs a.set), .string (bs a.rel)] 24)).alloc (.cells #[.slice A ns.length cap] 25)) 24 #[.int .i64 0, .string (bs []), .string (bs [])]
    rw [World.size_alloc, World.size_alloc] at h
    exact h.call hz
  have HB := Lib.hid ((((((Below.refl w.heap.size w).alloc (Nat.le_refl _) (.cells #[.int .i64 a.n, .string (bs a.set), .string (bs a.rel)] 24)).alloc (by simp) (.cells #[.slice A ns.length cap] 25)).alloc (by simp; omega) (.cells #[.int .i64 0, .string (bs []), .string (bs [])] 24)).trans (hz.mono (by simp; omega))))
  obtain ⟨d0, d1, d2⟩ := box_load xr
  have f0 := xr.free 0
  have f1 := xr.free 1
  have f2 := xr.free 2
  have Xr := Lib.hid xr
  clear hz xr
  go_wp2_with fail
  have y1 := ((Xr.out.set 0 (.int .i64 (a.part ns).n)).set 1 (.string (bs (a.part ns).set))).set 2 (.string (bs (a.part ns).rel))
  obtain ⟨q0, q1, q2⟩ := box_load (a := .int .i64 (a.part ns).n) (b := .string (bs (a.part ns).set)) (c := .string (bs (a.part ns).rel)) y1
  refine bodyPost_ret (v := stA (a.part ns)) ?_ rfl ⟨rfl, ?_⟩
  · simp [results, Tryd.results84, go_sem, q0, q1, q2]
  · exact ((HB.out.setCell (by simp; omega) _).setCell (by simp; omega) _).setCell (by simp; omega) _

end Go.Proofs.YtgiaebeoldigbaaDoor

namespace Go.Proofs.YtgiaebeoldigbaaDoor
open Go.RowKit
open Pl
set_option linter.unusedSimpArgs false
set_option linter.unusedVariables false
attribute [local go_sem ↓] Go.wp_at_zero Go.wp_at_succ

/-- two boxes behind a call -/
def Two (w W : World) (ca cb : Array Value) : Prop := Bx W w.heap.size 24 ca ∧ Bx W (w.heap.size + 1) 24 cb
theorem Two.call {w W W' : World} {ca cb : Array Value} (h : Two w W ca cb) (hb : Below W.heap.size W W') : Two w W' ca cb := ⟨h.1.call hb, h.2.call hb⟩
theorem Two.drew {w W : World} {ca cb : Array Value} (h : Two w W ca cb) : Two w W.drew ca cb := h
theorem Two.six {w W : World} {a b c d e f : Value} (h : Two w W #[a, b, c] #[d, e, f]) : W.cell? ⟨w.heap.size, 0, none⟩ = some a ∧ W.cell? ⟨w.heap.size, 1, none⟩ = some b ∧ W.cell? ⟨w.heap.size, 2, none⟩ = some c ∧ W.cell? ⟨w.heap.size + 1, 0, none⟩ = some d ∧ W.cell? ⟨w.heap.size + 1, 1, none⟩ = some e ∧ W.cell? ⟨w.heap.size + 1, 2, none⟩ = some f :=
  ⟨h.1.cell 0, h.1.cell 1, h.1.cell 2, h.2.cell 0, h.2.cell 1, h.2.cell 2⟩

/-- what the k-th element before says -/
def fitAt (a b : St) (o : List Nat) (x k : Nat) : Bool := a.inR x (o.getD k 0) == b.inR o.length k && a.inR (o.getD k 0) x == b.inR k o.length

theorem fitsB_eq (a b : St) (o : List Nat) (x : Nat) : fitsB a b o x = (a.inS x == b.inS o.length && a.inR x x == b.inR o.length o.length && (List.range o.length).all (fitAt a b o x)) := rfl

theorem all_upto {p : Nat → Bool} {n : Nat} (h : ∀ k, k < n → p k = true) : (List.range n).all p = true := List.all_eq_true.2 fun k hk => h k (List.mem_range.1 hk)
theorem all_not {p : Nat → Bool} {n k : Nat} (hk : k < n) (h : p k = false) : (List.range n).all p = false := by
  rw [Bool.eq_false_iff]; intro e
  have := List.all_eq_true.1 e k (List.mem_range.2 hk)
  rw [h] at this; cases this

end Go.Proofs.YtgiaebeoldigbaaDoor

namespace Go.Proofs.YtgiaebeoldigbaaDoor
open Go.RowKit
open Pl
set_option linter.unusedSimpArgs false
set_option linter.unusedVariables false

/-- what lies from a block on is as it was -/
structure Kp (B : Nat) (W W' : World) : Prop where
  size : W.heap.size ≤ W'.heap.size
  block : ∀ k, B ≤ k → k < W.heap.size → W'.heap[k]? = W.heap[k]?

theorem Kp.of_below {B : Nat} {W W' : World} (h : Below W.heap.size W W') : Kp B W W' := ⟨h.size, fun k _ hk => h.block k hk⟩
theorem Bx.kp {w w' : World} {g B : Nat} {t : TypeId} {cs : Array Value} (h : Bx w g t cs) (hk : Kp B w w') (hg : B ≤ g) : Bx w' g t cs := (hk.block g hg h.lt).trans h
theorem Bx.grown {w w' : World} {g : Nat} {t : TypeId} {cs : Array Value} {row : Option Nat} (h : Bx w g t cs) (hg : w.grownBy w' row) (hne : some g ≠ row) : Bx w' g t cs := (hg.block g h.lt hne).trans h
theorem own_kp {W W' : World} {B base n : Nat} {e : TypeId} {v : Value} {xs : List Value} (h : W.ownsRow base e 1 v n xs) (hk : Kp B W W') (hB : B ≤ base) : W'.ownsRow base e 1 v n xs := by
  obtain ⟨h1, h2⟩ := h
  refine ⟨h1, ?_⟩
  rcases h2 with h2 | ⟨g, cap, cur, hv, hg, hh, r⟩
  · exact .inl h2
  · exact .inr ⟨g, cap, cur, hv, hg, (hk.block g (by omega) (Array.getElem?_eq_some_iff.1 hh).1).trans hh, r⟩
theorem own_far {W : World} {base n : Nat} {e : TypeId} {v : Value} {xs : List Value} (h : W.ownsRow base e 1 v n xs) {p : Addr} (hp : ∀ g, v.ownBlock = some g → g ≠ p.block) (u : Value) : (W.setCell p u).ownsRow base e 1 v n xs := by
  obtain ⟨h1, h2⟩ := h
  refine ⟨h1, ?_⟩
  rcases h2 with h2 | ⟨g, cap, cur, hv, hg, hh, r⟩
  · exact .inl h2
  · exact .inr ⟨g, cap, cur, hv, hg, (Below.heap_setCell W p u g (hp g (by rw [hv]; rfl))).trans hh, r⟩
theorem own_open {W : World} {base : Nat} {v : Value} {o : List Nat} (h : W.ownsRow base 3 1 v o.length (intsV (natsI o))) : ∃ A cap, v = .slice A o.length cap ∧ o.length ≤ cap ∧ LRow W A (natsI o) := by
  have h0 := h
  rcases h.2 with ⟨rfl, hn⟩ | ⟨g, cap, cur, rfl, _, _, hc, _⟩
  · exact ⟨none, 0, by rw [hn], by omega, fun hl => by rw [natsI_len] at hl; omega⟩
  · exact ⟨some ⟨g, 0, none⟩, cap, rfl, hc, LRow_of h0⟩
theorem own_back {W : World} {base : Nat} {v : Value} {o : List Nat} {x : Nat} (h : W.ownsRow base 3 1 v (o ++ [x]).length (intsV (natsI (o ++ [x])))) :
    ∃ g cap, v = .slice (some ⟨g, 0, none⟩) (o.length + 1) cap ∧ o.length + 1 ≤ cap ∧ W.ownsRow base 3 1 (.slice (some ⟨g, 0, none⟩) o.length cap) o.length (intsV (natsI o)) := by
  obtain ⟨h1, ⟨_, h0⟩ | ⟨g, cap, cur, hv, hg, hh, hn, hc, hs, ht⟩⟩ := h
  · simp at h0
  · rw [List.length_append, List.length_singleton] at hn hv
    refine ⟨g, cap, hv, hn, by simp [intsV, natsI], .inr ⟨g, cap, cur, rfl, hg, hh, by omega, hc, hs, ?_⟩⟩
    have ht2 := congrArg (List.take o.length) ht
    simp only [List.take_take, List.length_append, List.length_singleton, Nat.mul_one, intsV, natsI, List.map_append] at ht2 ⊢
    rw [Nat.min_eq_left (by omega)] at ht2
    rw [ht2, List.take_left' (by simp)]

theorem own_form {w : World} {base n : Nat} {e : TypeId} {v : Value} {xs : List Value} (h : w.ownsRow base e 1 v (n + 1) xs) : ∃ g cap, v = .slice (some ⟨g, 0, none⟩) (n + 1) cap := by
  obtain ⟨_, ⟨_, h0⟩ | ⟨g, cap, _, hv, _⟩⟩ := h
  · cases h0
  · exact ⟨g, cap, hv⟩

/-- the order so far -/
def eRow (W : World) (B : Nat) (o : List Nat) : Prop :=
  ∃ v, Bx W (B + 4) 25 #[v] ∧ W.ownsRow (B + 3) 3 1 v o.length (intsV (natsI o)) ∧ ∀ k, v.ownBlock = some k → k ≠ B + 4 ∧ k ≠ B + 5

theorem eRow.kp {W W' : World} {B : Nat} {o : List Nat} (h : eRow W B o) (hk : Kp B W W') : eRow W' B o := by
  obtain ⟨v, h1, h2, h3⟩ := h
  exact ⟨v, h1.kp hk (by omega), own_kp h2 hk (by omega), h3⟩
/-- all of them, or the first alone -/
def told (c : Bool) (L : List (List Nat)) : List (List Nat) := if c then L else L.take 1
/-- the orders whose next element is below a number -/
def upTo (a b : St) (m : Nat) (o : List Nat) (k : Nat) : List (List Nat) := (List.range k).flatMap fun x => if nextB a b o x then shapes a b m (o ++ [x]) else []
theorem upTo_zero (a b : St) (m : Nat) (o : List Nat) : upTo a b m o 0 = [] := rfl
theorem upTo_succ (a b : St) (m : Nat) (o : List Nat) (k : Nat) : upTo a b m o (k + 1) = upTo a b m o k ++ (if nextB a b o k then shapes a b m (o ++ [k]) else []) := by
  unfold upTo; rw [List.range_succ, List.flatMap_append]; simp
theorem shapes_upTo (a b : St) (m : Nat) (o : List Nat) : shapes a b (m + 1) o = upTo a b m o a.n := rfl
theorem upTo_more (a b : St) (m : Nat) (o : List Nat) (k : Nat) : ∀ d, ∃ R, upTo a b m o (k + d) = upTo a b m o k ++ R
  | 0 => ⟨[], by simp⟩
  | d + 1 => by
    obtain ⟨R, h⟩ := upTo_more a b m o k d
    exact ⟨R ++ _, by rw [← Nat.add_assoc, upTo_succ, h, List.append_assoc]⟩
/-- where the first is told, the others are not -/
theorem told_stop {a b : St} {m k : Nat} {o : List Nat} (hk : k < a.n) (hn : nextB a b o k = true) (h0 : upTo a b m o k = []) (hs : (shapes a b m (o ++ [k])).isEmpty = false) :
    (shapes a b (m + 1) o).isEmpty = false ∧ told false (shapes a b (m + 1) o) = told false (shapes a b m (o ++ [k])) := by
  obtain ⟨R, h⟩ := upTo_more a b m o (k + 1) (a.n - (k + 1))
  rw [show k + 1 + (a.n - (k + 1)) = a.n by omega, upTo_succ, h0, hn] at h
  rw [shapes_upTo, h]
  generalize shapes a b m (o ++ [k]) = L at *
  cases L with
  | nil => cases hs
  | cons x L => simp [told]

end Go.Proofs.YtgiaebeoldigbaaDoor

namespace Go.Proofs.YtgiaebeoldigbaaDoor
open Go.RowKit
open Pl
set_option linter.unusedSimpArgs false
set_option linter.unusedVariables false

theorem LRow.news {w : World} {ga : Nat} {zs : List Int} (h : LRow w (some ⟨ga, 0, none⟩) zs) : ∀ j u, (intsV zs)[j]? = some u → w.cell? ((⟨ga, 0, none⟩ : Addr).add j) = some u := by
  intro j u hj
  have hl : j < zs.length := by
    have := (List.getElem?_eq_some_iff.1 hj).1
    simpa [intsV] using this
  obtain ⟨g, hg, hc⟩ := h (by omega)
  injection hg with hg
  injection hg with hg _
  subst hg
  have h2 := hc j hl
  simp only [intsV, List.getElem?_map, List.getElem?_eq_getElem hl, Option.map_some, Option.some.injEq] at hj
  subst hj
  have e : ((⟨ga, 0, none⟩ : Addr).add j) = ⟨ga, j, none⟩ := by
    rcases Nat.eq_zero_or_pos j with h0 | h0
    · subst h0; rfl
    · simp [Addr.add]; omega
  rw [e]
  simpa [List.getD, hl] using h2

theorem intsV_len (zs : List Int) : (intsV zs).length = zs.length := by simp [intsV]

/-- the empty list that the call makes -/
theorem own_zero (w : World) : (w.alloc (.cells #[] 3)).ownsRow w.heap.size 3 1 (.slice (some ⟨w.heap.size, 0, none⟩) 0 0) 0 [] :=
  ⟨rfl, .inr ⟨_, 0, #[], rfl, Nat.le_refl _, Bx.new w _ _, Nat.le_refl _, Nat.zero_le _, rfl, rfl⟩⟩

/-- behind a copy of a list -/
theorem app_one {w w1 : World} {v1 : Value} {n : Nat} {xs : List Value} (hown : w1.ownsRow w.heap.size 3 1 v1 (0 + n) ([] ++ xs)) (hg : (w.alloc (.cells #[] 3)).grownBy w1 (Value.ownBlock (.slice (some ⟨w.heap.size, 0, none⟩) 0 0))) :
    w1.ownsRow w.heap.size 3 1 v1 n xs ∧ Below w.heap.size w w1 := by
  refine ⟨by simpa using hown, ((Below.refl w.heap.size w).alloc (Nat.le_refl _) _).grown hg (by simp) (fun j hj => ?_)⟩
  simp [Value.ownBlock] at hj
  omega

/-- behind one number more -/
theorem app_two {w w1 w2 : World} {v1 v2 : Value} {o : List Nat} {x n : Nat} (hb : Below w.heap.size w w1) (hown1 : w1.ownsRow w.heap.size 3 1 v1 n (intsV (natsI o)))
    (hown : w2.ownsRow w.heap.size 3 1 v2 (n + 1) (intsV (natsI o) ++ [.int .i64 (x : Nat)])) (hg : (w1.alloc (.cells #[.int .i64 (x : Nat)] 3)).grownBy w2 v1.ownBlock) :
    ∃ g cap, v2 = .slice (some ⟨g, 0, none⟩) (n + 1) cap ∧ w.heap.size ≤ g ∧ LRow w2 (some ⟨g, 0, none⟩) (natsI (o ++ [x])) ∧ Below w.heap.size w w2 := by
  obtain ⟨g, cap, rfl⟩ := own_form hown
  have h2 : w2.ownsRow w.heap.size 3 1 (.slice (some ⟨g, 0, none⟩) (n + 1) cap) (n + 1) (intsV (natsI (o ++ [x]))) := by
    rw [show intsV (natsI (o ++ [x])) = intsV (natsI o) ++ [.int .i64 (x : Nat)] by simp [intsV, natsI]]
    exact hown
  refine ⟨g, cap, rfl, (hown.lt g rfl).1, LRow_of h2, (hb.alloc hb.size _).grown hg (by have := hb.size; simp; omega) (fun j hj => (hown1.lt j hj).1)⟩

theorem range_snoc (n : Nat) : List.range (n + 1) = List.range n ++ [n] := List.range_succ

/-- how many orders there are at most -/
theorem shapes_le {a b : St} (h : a.n ≤ 8) : ∀ (m : Nat) (o : List Nat), (shapes a b m o).length ≤ 8 ^ m := by
  have key : ∀ (m : Nat), (∀ o, (shapes a b m o).length ≤ 8 ^ m) → ∀ o k, (upTo a b m o k).length ≤ k * 8 ^ m := by
    intro m ih o k
    induction k with
    | zero => simp [upTo_zero]
    | succ k ihk =>
      rw [upTo_succ, List.length_append, Nat.succ_mul]
      have : (if nextB a b o k then shapes a b m (o ++ [k]) else []).length ≤ 8 ^ m := by
        split
        · exact ih _
        · simp
      omega
  intro m
  induction m with
  | zero => intro o; simp [shapes]
  | succ m ih =>
    intro o
    rw [shapes_upTo, Nat.pow_succ, Nat.mul_comm]
    exact Nat.le_trans (key m ih o a.n) (Nat.mul_le_mul_right _ h)
theorem upTo_le {a b : St} (h : a.n ≤ 8) (m : Nat) (o : List Nat) (k : Nat) : (upTo a b m o k).length ≤ k * 8 ^ m := by
  induction k with
  | zero => simp [upTo_zero]
  | succ k ihk =>
    rw [upTo_succ, List.length_append, Nat.succ_mul]
    have : (if nextB a b o k then shapes a b m (o ++ [k]) else []).length ≤ 8 ^ m := by
      split
      · exact shapes_le h _ _
      · simp
    omega
theorem pow8 {m : Nat} (h : m ≤ 8) : 8 ^ m ≤ 16777216 := Nat.pow_le_pow_right (by decide) h

end Go.Proofs.YtgiaebeoldigbaaDoor

namespace Go.Proofs.YtgiaebeoldigbaaDoor
open Go.RowKit
open Pl
set_option linter.unusedSimpArgs false
set_option linter.unusedVariables false

attribute [local go_sem ↓] Go.wp_at_zero Go.wp_at_succ

/-- a row of one's own behind a call that draws -/
theorem own_dw {W W' : World} {base rb n : Nat} {e : TypeId} {v : Value} {xs : List Value} (h : W.ownsRow base e 1 v n xs) (hg : W.grownBy W' (some rb)) (hrb : rb < base) : W'.ownsRow base e 1 v n xs := by
  obtain ⟨h1, h2⟩ := h
  refine ⟨h1, h2.imp id fun ⟨g, c, cur, hv, hb, hh, hr⟩ => ⟨g, c, cur, hv, hb, ?_, hr⟩⟩
  exact (hg.block g (Array.getElem?_eq_some_iff.1 hh).1 (by simp; omega)).trans hh
theorem own_cap {W : World} {base n g cp : Nat} {e : TypeId} {xs : List Value} (h : W.ownsRow base e 1 (.slice (some ⟨g, 0, none⟩) n cp) n xs) : n ≤ cp ∧ cp ≤ maxLen ∧ base ≤ g ∧ g < W.heap.size := by
  obtain ⟨_, ⟨h0, _⟩ | ⟨g', c, cur, hv, hb, hh, hn, hm, _⟩⟩ := h
  · cases h0
  · injection hv with h1 h2 h3
    injection h1 with h1
    injection h1 with h1
    subst h1; subst h3
    exact ⟨hn, hm, hb, (Array.getElem?_eq_some_iff.1 hh).1⟩
/-- the rest of a list, from an index on -/
theorem rest_cells {w : World} {g d : Nat} {L : List Nat} (h : LRow w (some ⟨g, 0, none⟩) (natsI L)) : ∀ j u, (intsV (natsI (L.drop d)))[j]? = some u → w.cell? ((⟨g, d, none⟩ : Addr).add j) = some u := by
  intro j u hj
  have hl : d + j < L.length := by
    have := (List.getElem?_eq_some_iff.1 hj).1
    simp [intsV, natsI] at this
    omega
  have h2 := LRow.news h (d + j) u (by
    rw [← hj]
    simp [intsV, natsI])
  have e1 : ((⟨g, d, none⟩ : Addr).add j) = ⟨g, d + j, none⟩ := by
    rcases Nat.eq_zero_or_pos j with h0 | h0
    · subst h0; rfl
    · simp [Addr.add]; omega
  have e2 : ((⟨g, 0, none⟩ : Addr).add (d + j)) = ⟨g, d + j, none⟩ := by
    rcases Nat.eq_zero_or_pos (d + j) with h0 | h0
    · rw [h0]; rfl
    · simp [Addr.add]; omega
  rw [e1, ← e2]
  exact h2

theorem own_low {w : World} {base base' n : Nat} {e : TypeId} {v : Value} {xs : List Value} (h : w.ownsRow base e 1 v n xs) (hb : base' ≤ base) : w.ownsRow base' e 1 v n xs :=
  ⟨h.1, h.2.imp (fun h => h) fun ⟨g, c, cur, h1, h2, h3⟩ => ⟨g, c, cur, h1, by omega, h3⟩⟩
theorem own_shape {w : World} {base n : Nat} {e : TypeId} {v : Value} {xs : List Value} (h : w.ownsRow base e 1 v n xs) (hn : 0 < n) : ∃ g cap, v = .slice (some ⟨g, 0, none⟩) n cap := by
  obtain ⟨_, ⟨_, h0⟩ | ⟨g, cap, _, hv, _⟩⟩ := h
  · omega
  · exact ⟨g, cap, hv⟩
theorem own_zero2 (w : World) (o : Obj) : ((w.alloc o).alloc (.cells #[] 3)).ownsRow w.heap.size 3 1 (.slice (some ⟨w.heap.size + 1, 0, none⟩) 0 0) 0 [] := by
  have h := own_zero (w.alloc o)
  rw [World.size_alloc] at h
  exact own_low h (Nat.le_succ _)
theorem take_row {w : World} {A : Option Addr} {L : List Nat} {d : Nat} (h : LRow w A (natsI L)) : LRow w A (natsI (L.take d)) := by
  have := h.take d
  unfold natsI at *
  rwa [List.map_take]
theorem next_order {W : World} {b b2 d k g cp : Nat} {L : List Nat} (hd : d ≤ L.length) (hL : L.length = k) (hlt : ∀ x ∈ L, x < k) (hnd : L.Nodup) (hb : b ≤ b2)
    (h : W.ownsRow b2 3 1 (.slice (some ⟨g, 0, none⟩) (d + 1 + (L.length - d)) cp) (d + 1 + (L.length - d)) ((intsV (natsI (L.take d))) ++ [.int .i64 (k : Nat)] ++ (intsV (natsI (L.drop d))))) :
    W.ownsRow b 3 1 (.slice (some ⟨g, 0, none⟩) (L.take d ++ k :: L.drop d).length cp) (L.take d ++ k :: L.drop d).length (intsV (natsI (L.take d ++ k :: L.drop d))) ∧ (L.take d ++ k :: L.drop d).length = k + 1 ∧ (∀ x ∈ L.take d ++ k :: L.drop d, x < k + 1) ∧ (L.take d ++ k :: L.drop d).Nodup := by
  have hn : (L.take d ++ k :: L.drop d).length = d + 1 + (L.length - d) := by simp; omega
  have hp : (L.take d ++ k :: L.drop d).Perm (k :: L) := by
    have := List.perm_middle (a := k) (l₁ := L.take d) (l₂ := L.drop d)
    rwa [List.take_append_drop] at this
  refine ⟨?_, by rw [hn]; omega, fun x hx => ?_, ?_⟩
  · rw [hn]
    have e : intsV (natsI (L.take d ++ k :: L.drop d)) = (intsV (natsI (L.take d))) ++ [.int .i64 (k : Nat)] ++ (intsV (natsI (L.drop d))) := by simp [intsV, natsI]
    rw [e]
    exact own_low h hb
  · rcases List.mem_cons.1 (hp.mem_iff.1 hx) with rfl | h2
    · omega
    · have := hlt x h2; omega
  · rw [hp.nodup_iff]
    exact List.nodup_cons.2 ⟨fun h2 => by have := hlt k h2; omega, hnd⟩

theorem next_order0 {W : World} {b b2 d k g cp : Nat} {L : List Nat} (hd : L.length = d) (hL : L.length = k) (hlt : ∀ x ∈ L, x < k) (hnd : L.Nodup) (hb : b ≤ b2)
    (h : W.ownsRow b2 3 1 (.slice (some ⟨g, 0, none⟩) (d + 1 + 0) cp) (d + 1 + 0) ((intsV (natsI (L.take d))) ++ [.int .i64 (k : Nat)] ++ [])) :
    W.ownsRow b 3 1 (.slice (some ⟨g, 0, none⟩) (L.take d ++ k :: L.drop d).length cp) (L.take d ++ k :: L.drop d).length (intsV (natsI (L.take d ++ k :: L.drop d))) ∧ (L.take d ++ k :: L.drop d).length = k + 1 ∧ (∀ x ∈ L.take d ++ k :: L.drop d, x < k + 1) ∧ (L.take d ++ k :: L.drop d).Nodup := by
  refine next_order (by omega) hL hlt hnd hb ?_
  have e : L.length - d = 0 := by omega
  have e2 : (intsV (natsI (L.drop d))) = [] := by rw [List.drop_of_length_le (by omega)]; rfl
  rw [e, e2]
  exact h

/-- an order that is drawn -/
def ShufS (w : World) (rb : Nat) (A : Option Addr) (n cap p m : Nat) (e : Ending) (w' : World) : Prop := ∃ (L : List Nat) (g cp : Nat), e = .returned (.slice (some ⟨g, 0, none⟩) L.length cp) ∧ L.length = m ∧ (∀ x ∈ L, x < m) ∧ L.Nodup ∧
  w'.ownsRow w.heap.size 3 1 (.slice (some ⟨g, 0, none⟩) L.length cp) L.length (intsV (natsI L)) ∧ Rd w' rb A n cap (p + m)

end Go.Proofs.YtgiaebeoldigbaaDoor

namespace Go.Proofs.YtgiaebeoldigbaaDoor
open Go.RowKit
open Pl
set_option linter.unusedSimpArgs false
set_option linter.unusedVariables false

attribute [local go_sem ↓] Go.wp_at_zero Go.wp_at_succ

/-- the reader where a row of another block grows -/
theorem Rd.app {V V' : World} {rb n cap p : Nat} {A : Option Addr} {row : Option Nat} (h : Rd V rb A n cap p) (hg : V.grownBy V' row) (hr : ∀ j, row = some j → rb < j) : Rd V' rb A n cap p := by
  have hlt := h.box.lt
  refine ⟨h.box.grown' hg (fun e => by have := hr rb e.symm; omega), ?_, h.small, h.sep⟩
  intro h0
  obtain ⟨x, rfl, hc⟩ := h.row h0
  have hx := h.sep h0 x rfl
  refine ⟨x, rfl, fun i hi => ?_⟩
  obtain ⟨b, hb, hcell⟩ := hc i hi
  refine ⟨b, hb, ?_⟩
  rw [← hcell]
  have hbl : (x.add i).block = x.block := by unfold Addr.add; split <;> rfl
  exact World.cell?_of_block (by rw [hbl]; exact hg.block x.block (by omega) (fun e => by have := hr x.block e.symm; omega))
theorem Fr.app {w V V' : World} {rb n cap p : Nat} {A : Option Addr} {row : Option Nat} (h : Fr w rb A n cap p V) (hg : V.grownBy V' row) (hr : ∀ j, row = some j → rb < j) : Fr w rb A n cap p V' :=
  ⟨h.rd.app hg hr, h.bel.grown hg h.bel.size (fun j hj => by have := hr j hj; have := h.rge; omega), h.rge⟩
/-- the first of a row -/
theorem own_first {W : World} {base n n' g cp : Nat} {e : TypeId} {xs : List Value} (h : W.ownsRow base e 1 (.slice (some ⟨g, 0, none⟩) n cp) n xs) (hn : n' ≤ n) : W.ownsRow base e 1 (.slice (some ⟨g, 0, none⟩) n' cp) n' (xs.take n') := by
  obtain ⟨h1, ⟨h0, _⟩ | ⟨g', c, cur, hv, hb, hh, hle, hm, hs, hx⟩⟩ := h
  · cases h0
  · refine ⟨by rw [List.length_take, h1]; omega, .inr ⟨g', c, cur, ?_, hb, hh, ?_, hm, hs, ?_⟩⟩
    · injection hv with e1 e2 e3
      rw [e1, e3]
    · omega
    · rw [← hx, List.take_take]
      congr 1
      omega
theorem intsV_take (zs : List Int) (k : Nat) : (intsV zs).take k = intsV (zs.take k) := by unfold intsV; rw [List.map_take]

/-- a structure and some numbers that are drawn -/
def StL (e : Ending) (w' : World) : Prop := ∃ (i : Int) (s r : ByteArray) (zs : List Int) (A : Option Addr) (c : Nat), e = .returned (.tuple #[stV i s r, .slice A zs.length c]) ∧ s.size ≤ 100 ∧ r.size ≤ 100 ∧ zs.length ≤ 10 ∧ zs.length ≤ c ∧ LRow w' A zs

end Go.Proofs.YtgiaebeoldigbaaDoor

namespace Go.Proofs.YtgiaebeoldigbaaDoor
open Go.RowKit
open Pl
set_option linter.unusedSimpArgs false
set_option linter.unusedVariables false

attribute [local go_sem ↓] Go.wp_at_zero Go.wp_at_succ

/-- a structure, a text and some numbers that are drawn -/
def StFL (e : Ending) (w' : World) : Prop := ∃ (i : Int) (s r t : ByteArray) (zs : List Int) (A : Option Addr) (c : Nat), e = .returned (.tuple #[stV i s r, .string t, .slice A zs.length c]) ∧ s.size ≤ 100 ∧ r.size ≤ 100 ∧ t.size ≤ 64 ∧ zs.length ≤ 10 ∧ zs.length ≤ c ∧ LRow w' A zs
theorem num_le5 {m : Int} (h : m ∈ [4, 4, 3, 2, 5, 0]) : 0 ≤ m ∧ m ≤ 5 := by
  simp only [List.mem_cons, List.not_mem_nil, or_false] at h
  omega

set_option maxHeartbeats 8000000 in
set_option maxRecDepth 100000 in
theorem DrawHoldsAt_calls (A : Option Addr) (n cap : Nat) (w : World) (h : ByRow w A n) (hn : n ≤ 1048576) (hc : n ≤ cap) (hm : cap ≤ maxLen) :
    Calls Tryd.prog 10 #[.slice A n cap] w fun e w' => StFL e w' ∧ Below w.heap.size w w' := by
  obtain ⟨i0, hi, hz0, hz1, hz2⟩ := info_parts (P := Tryd.prog) (e := 3) (z := .int .i64 0) (size := 1) (bytes := 8) (by kernel_rfl)
  have Ho := Lib.hid (fun W h => l15Open_calls A n cap W h hn hc hm)
  have H0 := Lib.hid (h.call ((Below.refl w.heap.size w).alloc (Nat.le_refl _) (.cells #[.int .i64 0, .string (bs []), .string (bs [])] 24)))
  have Hso := Lib.hid (fun (rb n cap : Nat) (A : Option Addr) (W : World) (h : Rd W rb A n cap 0) => l1Open_calls rb A n cap 0 W h (by omega))
  have Hfo := Lib.hid (fun (rb n cap p : Nat) (A : Option Addr) (W : World) (h : Rd W rb A n cap p) (hp : p ≤ 10000) => l2Open_calls rb A n cap p W h (by omega))
  have Hpk0 := Lib.hid (show ∀ (rb n cap : Nat) (A : Option Addr) (k : Int) (q : Nat) (V : World), k ≤ 1000 → q ≤ 100000 → Rd V rb A n cap q → Calls Tryd.prog 41 #[.pointer (some ⟨rb, 0, none⟩), .int .i64 k] V fun e w' => PickP k e ∧ Rd w' rb A n cap (q + 1) ∧ V.grownBy w' (some rb) from fun rb n cap A k q V hk hq hr => pick_calls rb A n cap q k V hr (by omega) (by omega))
  have Hnum := Lib.hid (show ∀ (rb n cap : Nat) (A : Option Addr) (q g : Nat) (W : World), q ≤ 100000 → NCells W g [4, 4, 3, 2, 5, 0] → g ≠ rb → Rd W rb A n cap q → Calls Tryd.prog 40 #[.pointer (some ⟨rb, 0, none⟩), .slice (some ⟨g, 0, none⟩) 6 6] W fun e w' => (∃ k : Int, e = .returned (.int .i64 k) ∧ 0 ≤ k ∧ k ≤ 5) ∧ Rd w' rb A n cap (q + 1) ∧ W.grownBy w' (some rb) from
    fun rb n cap A q g W hq h1 h2 h3 => (num_calls rb A n cap q g 6 [4, 4, 3, 2, 5, 0] W h3 (by omega) (by simp) (by simp) h1 h2).mono fun e w' ⟨⟨m, h4, h5⟩, h6⟩ => ⟨⟨m, h4, num_le5 h5⟩, h6⟩)
  have Hnum2 := Lib.hid (show ∀ (rb n cap : Nat) (A : Option Addr) (q g : Nat) (W : World), q ≤ 100000 → NCells W g [-1, 8] → g ≠ rb → Rd W rb A n cap q → Calls Tryd.prog 40 #[.pointer (some ⟨rb, 0, none⟩), .slice (some ⟨g, 0, none⟩) 2 2] W fun e w' => (∃ k : Int, e = .returned (.int .i64 k)) ∧ Rd w' rb A n cap (q + 1) ∧ W.grownBy w' (some rb) from
    fun rb n cap A q g W hq h1 h2 h3 => (num_calls rb A n cap q g 2 [-1, 8] W h3 (by omega) (by simp) (by simp) h1 h2).mono fun e w' ⟨⟨m, h4, _⟩, h6⟩ => ⟨⟨m, h4⟩, h6⟩)
  have X0 := Lib.hid (Bx.new w 24 #[.int .i64 0, .string (bs []), .string (bs [])])
  have B0 := Lib.hid ((Below.refl w.heap.size w).alloc (Nat.le_refl _) (.cells #[.int .i64 0, .string (bs []), .string (bs [])] 24))
  clear h hn hc hm
  go_enter Tryd.func10, Tryd.ntmps10
  go_wp2_with fail
  refine (Ho.out _ H0.out).mono ?_
  rintro e w1 ⟨⟨A', n', cap', rfl, hr⟩, hb⟩
  have F1 := Lib.hid (Fr.new (rb := w.heap.size + 1) B0.out hr hb (by simp))
  have X1 := Lib.hid (X0.out.call hb)
  have Hpk := Lib.hid (Hpk0.out (w.heap.size + 1) n' cap' A')
  clear hr hb
  go_wp2_with fail
  refine (Hso.out _ _ _ _ _ F1.out.rd).mono ?_
  rintro e w2 ⟨⟨i, s, r, p2, rfl, _, hs, hr, hp2, hrd⟩, hg⟩
  have F2 := Lib.hid (F1.out.step hrd hg)
  have X2 := Lib.hid (X1.out.grown' hg (by first | (simp; done) | (simp; omega)))
  clear hrd hg
  have F3 := Lib.hid (F2.out.alloc (.cells #[.int .i64 i, .string s, .string r] 24))
  have X3 := Lib.hid (X2.out.alloc (.cells #[.int .i64 i, .string s, .string r] 24))
  have XA3 := Lib.hid (Bx.new w2 24 #[.int .i64 i, .string s, .string r])
  have HA := Lib.hid (show w.heap.size + 1 < w2.heap.size from F2.out.rd.box.lt)
  go_wp2_with fail
  refine (Hfo.out _ _ _ _ _ _ F3.out.rd (by omega)).mono ?_
  rintro e w4 ⟨⟨t, p4, rfl, ht, hp4, hrd⟩, hg⟩
  have F4 := Lib.hid (F3.out.step hrd hg)
  have X4 := Lib.hid (X3.out.grown' hg (by first | (simp; done) | (simp; omega)))
  have XA4 := Lib.hid (XA3.out.grown' hg (by have := HA.out; simp; omega))
  clear hrd hg
  have F5 := Lib.hid (F4.out.alloc (.cells #[] 3))
  have X5 := Lib.hid (X4.out.alloc (.cells #[] 3))
  have XA5 := Lib.hid (XA4.out.alloc (.cells #[] 3))
  have HO := Lib.hid (show w.heap.size + 1 < w4.heap.size from F4.out.rd.box.lt)
  have HB := Lib.hid (show w2.heap.size < w4.heap.size from XA4.out.lt)
  have O5 := Lib.hid (own_zero w4)
  have F6 := Lib.hid (F5.out.alloc (.cells #[.int .i64 4, .int .i64 4, .int .i64 3, .int .i64 2, .int .i64 5, .int .i64 0] 3))
  have X6 := Lib.hid (X5.out.alloc (.cells #[.int .i64 4, .int .i64 4, .int .i64 3, .int .i64 2, .int .i64 5, .int .i64 0] 3))
  have XA6 := Lib.hid (XA5.out.alloc (.cells #[.int .i64 4, .int .i64 4, .int .i64 3, .int .i64 2, .int .i64 5, .int .i64 0] 3))
  have O6 := Lib.hid (O5.out.alloc (.cells #[.int .i64 4, .int .i64 4, .int .i64 3, .int .i64 2, .int .i64 5, .int .i64 0] 3))
  have N6 := Lib.hid (ncells_new (w4.alloc (.cells #[] 3)) [4, 4, 3, 2, 5, 0] 3)
  go_wp2_with fail
  refine (Hnum.out _ _ _ _ p4 _ _ (by omega) (by have := N6.out; simpa using this) (by have := HO.out; simp; omega) F6.out.rd).mono ?_
  rintro e w7 ⟨⟨m, rfl, hm0, hm5⟩, hrd, hg⟩
  have Hs7 := Lib.hid (show w4.heap.size ≤ w7.heap.size from by have := hg.size; simp at this; omega)
  have F7 := Lib.hid (F6.out.step hrd hg)
  have X7 := Lib.hid (X6.out.grown' hg (by first | (simp; done) | (simp; omega)))
  have XA7 := Lib.hid (XA6.out.grown' hg (by have := HA.out; simp; omega))
  have O7 := Lib.hid (own_dw O6.out hg (by have := HO.out; omega))
  clear hrd hg
  obtain ⟨M, rfl⟩ : ∃ M : Nat, m = (M : Nat) := ⟨m.toNat, by omega⟩
  have hM : M ≤ 5 := by omega
  clear hm0 hm5
  go_wp2_with fail
  go_loopg [8, 9] M (fun c o nv wr => ∃ (j q p : Nat) (zs : List Int) (g cp : Nat), q = c ∧ j + q = M ∧ nv = .int .i64 (q : Nat) ∧ o = .slice (some ⟨g, 0, none⟩) j cp ∧ j ≤ cp ∧ zs.length = j ∧ p ≤ p4 + 1 + j ∧ wr.ownsRow w4.heap.size 3 1 (.slice (some ⟨g, 0, none⟩) j cp) j (intsV zs) ∧ Fr w (w.heap.size + 1) A' n' cap' p wr ∧ Bx wr w.heap.size 24 #[.int .i64 0, .string (bs []), .string (bs [])] ∧ Bx wr w2.heap.size 24 #[.int .i64 i, .string s, .string r] ∧ w4.heap.size ≤ wr.heap.size)
  case atStart => exact ⟨0, M, p4 + 1, [], w4.heap.size, 0, rfl, by omega, rfl, rfl, Nat.le_refl _, rfl, by omega, O7.out, F7.out, X7.out, XA7.out, Hs7.out⟩
  case round =>
    clear F1 F2 F3 F4 F5 F6 F7 X1 X2 X3 X4 X5 X6 X7 XA3 XA4 XA5 XA6 XA7 O5 O6 O7 N6 Hs7
    obtain ⟨j, q, p, zs, g, cp, hq, hj, rfl, rfl, hcp, hzl, hp, ho, hf, hx, hxa, hsz⟩ := hrel
    subst hq
    have F1 := Lib.hid hf
    have X1 := Lib.hid hx
    have XA1 := Lib.hid hxa
    have O1 := Lib.hid ho
    have Hsz := Lib.hid hsz
    have Hzl := Lib.hid hzl
    clear hf hx hxa ho hsz hzl
    obtain ⟨a0, a1, a2⟩ := box_load XA1.out
    rcases Nat.eq_zero_or_pos q with h0 | h0
    · subst h0
      obtain rfl : j = M := by omega
      clear a0 a1 a2
      go_wp2_with fail
      refine (Hpk.out 20 p _ (by omega) (by omega) F1.out.rd).mono ?_
      rintro e w2' ⟨⟨m, rfl, hm0, _, _⟩, hrd, hg⟩
      have Hsz2 := Lib.hid (show w4.heap.size ≤ w2'.heap.size from by have := hg.size; have := Hsz.out; omega)
      have F2 := Lib.hid (F1.out.step hrd hg)
      have X2 := Lib.hid (X1.out.grown' hg (by first | (simp; done) | (simp; omega)))
      have XA2 := Lib.hid (XA1.out.grown' hg (by have := HA.out; simp; omega))
      have O2 := Lib.hid (own_dw O1.out hg (by have := HO.out; omega))
      clear hrd hg
      by_cases e0 : m = 0
      · subst e0
        have F3 := Lib.hid (F2.out.alloc (.cells #[.int .i64 (-1), .int .i64 8] 3))
        have X3 := Lib.hid (X2.out.alloc (.cells #[.int .i64 (-1), .int .i64 8] 3))
        have XA3 := Lib.hid (XA2.out.alloc (.cells #[.int .i64 (-1), .int .i64 8] 3))
        have O3 := Lib.hid (O2.out.alloc (.cells #[.int .i64 (-1), .int .i64 8] 3))
        have N3 := Lib.hid (ncells_new w2' [-1, 8] 3)
        go_wp2_with fail
        refine (Hnum2.out _ _ _ _ (p + 1) _ _ (by omega) (by have := N3.out; simpa using this) (by have := HO.out; have := Hsz2.out; simp; omega) F3.out.rd).mono ?_
        rintro e w4' ⟨⟨x, rfl⟩, hrd, hg⟩
        have Hsz4 := Lib.hid (show w4.heap.size ≤ w4'.heap.size from by have e1 := hg.size; have e2 := Hsz2.out; simp at e1; omega)
        have F4 := Lib.hid (F3.out.step hrd hg)
        have X4 := Lib.hid (X3.out.grown' hg (by first | (simp; done) | (simp; omega)))
        have XA4 := Lib.hid (XA3.out.grown' hg (by have := HA.out; simp; omega))
        have O4 := Lib.hid (own_dw O3.out hg (by have := HO.out; omega))
        clear hrd hg
        go_wp2_with (at_builtin; refine wpList_append_own_at _ rfl (.tmp 36) (.tmp 40) 25 rfl w4.heap.size 3 i0 (.int .i64 0) 1 8 Tryd.underlying25 hi hz0 hz1 hz2 rfl (by decide) _ j (intsV zs) rfl (O4.out.alloc _) ⟨w4'.heap.size, 0, none⟩ 1 1 [.int .i64 x] rfl rfl (cell_one_new _ _ _) (ints_oneCell .i64 [x]) (by unfold maxLen; omega) (by omega) (by have := HB.out; have := Hsz4.out; first | omega | (simp; omega)) ?_; intro v5 w5 ho5 hg5 hn5 hat5; clear hn5 hat5; obtain ⟨g5, cp5, rfl⟩ := own_form ho5; obtain ⟨hcx1, hcx2, _, _⟩ := own_cap ho5; have F5 := Lib.hid ((F4.out.alloc (.cells #[.int .i64 x] 3)).app hg5 (fun j hj => by have := (O4.out.lt j hj).1; have := HO.out; omega)); have X5 := Lib.hid ((X4.out.alloc (.cells #[.int .i64 x] 3)).grown' hg5 (fun e => by have := (O4.out.lt _ e.symm).1; have := HO.out; omega)); have XA5 := Lib.hid ((XA4.out.alloc (.cells #[.int .i64 x] 3)).grown' hg5 (fun e => by have := (O4.out.lt _ e.symm).1; have := HA.out; have := HB.out; omega)); have O5 := Lib.hid (show w5.ownsRow w4.heap.size 3 1 (.slice (some ⟨g5, 0, none⟩) (j + 1) cp5) (j + 1) (intsV (zs ++ [x])) from by rw [show intsV (zs ++ [x]) = intsV zs ++ [.int .i64 x] by simp [intsV]]; exact ho5); clear ho5 hg5; obtain ⟨a0, a1, a2⟩ := box_load XA5.out; obtain ⟨c0, c1, c2⟩ := box_load X5.out; have f0 := X5.out.free 0; have f1 := X5.out.free 1; have f2 := X5.out.free 2; obtain ⟨q0, q1, q2⟩ := box_load (X5.out.puts (.int .i64 i) (.string s) (.string r)); have E1 := Lib.hid (below_puts F5.out.bel (Nat.le_refl _) (.int .i64 i) (.string s) (.string r)); have O99 := Lib.hid (own_far (p := ⟨w.heap.size, 2, none⟩) (own_far (p := ⟨w.heap.size, 1, none⟩) (own_far (p := ⟨w.heap.size, 0, none⟩) O5.out (fun g' hg' => by have := (O5.out.lt g' hg').1; have := HO.out; show g' ≠ w.heap.size; omega) (.int .i64 i)) (fun g' hg' => by have := (O5.out.lt g' hg').1; have := HO.out; show g' ≠ w.heap.size; omega) (.string s)) (fun g' hg' => by have := (O5.out.lt g' hg').1; have := HO.out; show g' ≠ w.heap.size; omega) (.string r)))
        refine bodyPost_ret (v := .tuple #[stV i s r, .string t, .slice (some ⟨g5, 0, none⟩) (j + 1) cp5]) ?_ rfl ⟨⟨i, s, r, t, (zs ++ [x]), _, _, by rw [show (zs ++ [x]).length = j + 1 by rw [List.length_append, Hzl.out]; rfl], hs, hr, ht, by rw [show (zs ++ [x]).length = j + 1 by rw [List.length_append, Hzl.out]; rfl]; omega, by rw [show (zs ++ [x]).length = j + 1 by rw [List.length_append, Hzl.out]; rfl]; omega, LRow_of O99.out⟩, E1.out⟩
        simp [results, Tryd.results10, go_sem, q0, q1, q2]
      · have f9 : (m == 0) = false := by rw [beq_eq_false_iff_ne]; exact e0
        obtain ⟨a0, a1, a2⟩ := box_load XA2.out
        obtain ⟨c0, c1, c2⟩ := box_load X2.out
        have f0 := X2.out.free 0
        have f1 := X2.out.free 1
        have f2 := X2.out.free 2
        obtain ⟨q0, q1, q2⟩ := box_load (X2.out.puts (.int .i64 i) (.string s) (.string r))
        have E1 := Lib.hid (below_puts F2.out.bel (Nat.le_refl _) (.int .i64 i) (.string s) (.string r))
        have O99 := Lib.hid (own_far (p := ⟨w.heap.size, 2, none⟩) (own_far (p := ⟨w.heap.size, 1, none⟩) (own_far (p := ⟨w.heap.size, 0, none⟩) O2.out (fun g' hg' => by have := (O2.out.lt g' hg').1; have := HO.out; show g' ≠ w.heap.size; omega) (.int .i64 i)) (fun g' hg' => by have := (O2.out.lt g' hg').1; have := HO.out; show g' ≠ w.heap.size; omega) (.string s)) (fun g' hg' => by have := (O2.out.lt g' hg').1; have := HO.out; show g' ≠ w.heap.size; omega) (.string r))
        go_wp2_with fail
        refine bodyPost_ret (v := .tuple #[stV i s r, .string t, .slice (some ⟨g, 0, none⟩) (j) cp]) ?_ rfl ⟨⟨i, s, r, t, zs, _, _, by rw [Hzl.out], hs, hr, ht, by rw [Hzl.out]; omega, by rw [Hzl.out]; omega, LRow_of O99.out⟩, E1.out⟩
        simp [results, Tryd.results10, go_sem, q0, q1, q2]
    · obtain ⟨q', rfl⟩ : ∃ q', q = q' + 1 := ⟨q - 1, by omega⟩
      have hq1 : (0 : Int) < ((q' + 1 : Nat) : Int) := by omega
      have hq2 : ((q' + 1 : Nat) : Int) - 1 = ((q' : Nat) : Int) := by omega
      have hq3 : (q' : Int) ≤ 5 := by omega
      go_wp2_with fail
      refine (Hpk.out _ p _ (by omega) (by omega) F1.out.rd).mono ?_
      rintro e w2' ⟨⟨x, rfl, _, _, _⟩, hrd, hg⟩
      have Hsz2 := Lib.hid (show w4.heap.size ≤ w2'.heap.size from by have := hg.size; have := Hsz.out; omega)
      clear a0 a1 a2
      have F2 := Lib.hid (F1.out.step hrd hg)
      have X2 := Lib.hid (X1.out.grown' hg (by first | (simp; done) | (simp; omega)))
      have XA2 := Lib.hid (XA1.out.grown' hg (by have := HA.out; simp; omega))
      have O2 := Lib.hid (own_dw O1.out hg (by have := HO.out; omega))
      clear hrd hg
      go_wp2_with (at_builtin; refine wpList_append_own_at _ rfl (.tmp 24) (.tmp 31) 25 rfl w4.heap.size 3 i0 (.int .i64 0) 1 8 Tryd.underlying25 hi hz0 hz1 hz2 rfl (by decide) _ j (intsV zs) rfl (O2.out.alloc _) ⟨w2'.heap.size, 0, none⟩ 1 1 [.int .i64 x] rfl rfl (cell_one_new _ _ _) (ints_oneCell .i64 [x]) (by unfold maxLen; omega) (by omega) (by have := HB.out; have := Hsz2.out; first | omega | (simp; omega)) ?_; intro v5 w5 ho5 hg5 hn5 hat5; clear hn5 hat5; obtain ⟨g5, cp5, rfl⟩ := own_form ho5; obtain ⟨hcx1, hcx2, _, _⟩ := own_cap ho5; have F3 := Lib.hid ((F2.out.alloc (.cells #[.int .i64 x] 3)).app hg5 (fun j hj => by have := (O2.out.lt j hj).1; have := HO.out; omega)); have X3 := Lib.hid ((X2.out.alloc (.cells #[.int .i64 x] 3)).grown' hg5 (fun e => by have := (O2.out.lt _ e.symm).1; have := HO.out; omega)); have XA3 := Lib.hid ((XA2.out.alloc (.cells #[.int .i64 x] 3)).grown' hg5 (fun e => by have := (O2.out.lt _ e.symm).1; have := HA.out; have := HB.out; omega)); have O3 := Lib.hid (show w5.ownsRow w4.heap.size 3 1 (.slice (some ⟨g5, 0, none⟩) (j + 1) cp5) (j + 1) (intsV (zs ++ [x])) from by rw [show intsV (zs ++ [x]) = intsV zs ++ [.int .i64 x] by simp [intsV]]; exact ho5); have Hsz5 := Lib.hid (show w4.heap.size ≤ w5.heap.size from by have e1 := hg5.size; have e2 := Hsz2.out; simp at e1; omega); clear ho5 hg5)
      go_roundg q'
      case rel => exact ⟨j + 1, q', p + 1, zs ++ [x], g5, cp5, rfl, by omega, by go_num, rfl, hcx1, by rw [List.length_append, Hzl.out]; rfl, by omega, O3.out, F3.out, X3.out, XA3.out, Hsz5.out⟩
      case measure => omega

end Go.Proofs.YtgiaebeoldigbaaDoor

namespace Go.Proofs.YtgiaebeoldigbaaDoor
open Go.ChangeMaps
set_option linter.unusedSimpArgs false
set_option linter.unusedVariables false

/-- keys of which it can be told whether they are the same -/
structure MKey (P : Program) (w : World) (k : TypeId) (S : Value → Prop) : Prop where
  check : ∀ (em : Bool) {v : Value}, S v → (Instr.checkKey em 10000 k v).run P w = .ok () w
  find : ∀ {x : Value}, S x → ∀ es : List MapEntry, (∀ e ∈ es, S e.key) →
    ((Instr.findKey k x es).run P w = .ok none w ∧ ∀ e ∈ es, e.key ≠ x) ∨ ∃ j e, (Instr.findKey k x es).run P w = .ok (some (j, e.val)) w ∧ es[j]? = some e ∧ e.key = x
  stays : ∀ {v : Value}, S v → (Instr.keyThatStays v v).run P w = .ok v w

/-- numbers as keys -/
def IKey (v : Value) : Prop := ∃ n : Nat, v = .int .i64 (n : Nat) ∧ n < 4096
/-- addresses of blocks as keys -/
def PKey (w : World) (v : Value) : Prop := ∃ b c t, v = .pointer (some ⟨b, 0, none⟩) ∧ w.heap[b]? = some (.cells c t (0, 0))

theorem ikey {P : Program} {w : World} {k : TypeId} (hk : P.underlying k = some (.int .i64)) : MKey P w k IKey := by
  have K := Maps.int_keyed hk
  have key : ∀ {v}, IKey v → ∃ l, keyOf P k v = some l := fun {v} ⟨n, hv, hn⟩ => by
    refine ⟨_, hv ▸ Maps.keyOf_int_mk hk (a := (n : Int)) ?_⟩
    simp [Lit.wf, IntKind.min, IntKind.max, IntKind.signed, IntKind.bits]
    omega
  exact ⟨fun em v h => by obtain ⟨l, hl⟩ := key h; exact K.check w em hl, fun {x} h es hes => by
    obtain ⟨l, hl⟩ := key h
    exact K.find w hl es fun e he => key (hes e he), fun {v} h => by obtain ⟨l, hl⟩ := key h; exact K.stays w hl⟩

theorem eq_ptr {P : Program} {w : World} {k e : TypeId} {j : TypeInfo} (hk : P.underlying k = some (.pointer e)) (he : P.info? e = some j) (hsz : j.size ≠ 0) {x y : Value} (hx : PKey w x) (hy : PKey w y) :
    ∃ r : Bool, (Op.equal k x y).run P w = .ok r w ∧ (r = true ↔ x = y) := by
  obtain ⟨a, ca, ta, rfl, ha⟩ := hx
  obtain ⟨b, cb, tb, rfl, hb⟩ := hy
  by_cases hab : a = b
  · subst hab
    refine ⟨true, ?_, by simp⟩
    have h : ∀ d : Nat, (Op.equalIn (d + 1) k (.pointer (some ⟨a, 0, none⟩)) (.pointer (some ⟨a, 0, none⟩))).run P w = .ok true w := fun d => by
      simp [Op.equalIn, run_underlying hk, sizeOf, typeInfo, he, run_sameAddr_same]
    simp only [Op.equal, Op.maxDepth]
    exact h 9999
  · refine ⟨false, ?_, by simp [hab]⟩
    have h := run_sameAddr_other (P := P) w (a := ⟨a, 0, none⟩) (b := ⟨b, 0, none⟩) (by simp [hab]) ha hb
    have h2 : ∀ d : Nat, (Op.equalIn (d + 1) k (.pointer (some ⟨a, 0, none⟩)) (.pointer (some ⟨b, 0, none⟩))).run P w = .ok false w := fun d => by
      simp [Op.equalIn, run_underlying hk, sizeOf, typeInfo, he, hsz, h]
    simp only [Op.equal, Op.maxDepth]
    exact h2 9999

theorem find_ptr {P : Program} {w : World} {k e : TypeId} {j : TypeInfo} (hk : P.underlying k = some (.pointer e)) (he : P.info? e = some j) (hsz : j.size ≠ 0) {x : Value} (hx : PKey w x) : ∀ (es : List MapEntry) (i : Nat), (∀ e ∈ es, PKey w e.key) →
    ((Instr.findAsking k x es i).run P w = .ok none w ∧ ∀ e ∈ es, e.key ≠ x) ∨ ∃ j e, (Instr.findAsking k x es i).run P w = .ok (some (i + j, e.val)) w ∧ es[j]? = some e ∧ e.key = x
  | [], i, _ => .inl ⟨by simp [Instr.findAsking], by simp⟩
  | y :: es, i, hall => by
    obtain ⟨r, hr, hiff⟩ := eq_ptr hk he hsz hx (hall y (by simp))
    cases r with
    | false =>
      have hne : y.key ≠ x := fun h => by have := hiff.2 h.symm; cases this
      rcases find_ptr hk he hsz hx es (i + 1) (fun z hz => hall z (by simp [hz])) with ⟨h1, h2⟩ | ⟨j, e', h1, h2, h3⟩
      · refine .inl ⟨by simp [Instr.findAsking, hr, h1], fun z hz => ?_⟩
        rcases List.mem_cons.1 hz with rfl | hz
        · exact hne
        · exact h2 z hz
      · exact .inr ⟨j + 1, e', by simp [Instr.findAsking, hr, h1, Nat.add_assoc, Nat.add_comm 1 j], by simpa using h2, h3⟩
    | true => exact .inr ⟨0, y, by simp [Instr.findAsking, hr], rfl, (hiff.1 rfl).symm⟩

theorem findNow_ptr {d : TypeId} {x : Value} : ∀ (es : List MapEntry) (i : Nat), Instr.findNow (.pointer d) x es i = if es = [] then some none else none
  | [], i => rfl
  | y :: es, i => by simp [Instr.findNow, Instr.sameNow]

theorem pkey {P : Program} {w : World} {k e : TypeId} {j : TypeInfo} (hk : P.underlying k = some (.pointer e)) (he : P.info? e = some j) (hsz : j.size ≠ 0) : MKey P w k (PKey w) := by
  refine ⟨fun em v ⟨b, c, t, hv, _⟩ => ?_, fun {x} hx es hes => ?_, fun {v} ⟨b, c, t, hv, _⟩ => ?_⟩
  · subst hv
    have h : ∀ n : Nat, (Instr.checkKey em (n + 1) k (.pointer (some ⟨b, 0, none⟩))).run P w = .ok () w := fun n => by
      simp [Instr.checkKey, run_underlying hk]
    exact h 9999
  · cases es with
    | nil => exact .inl ⟨by simp [Instr.findKey, run_underlying hk, findNow_ptr], by simp⟩
    | cons y es =>
      have hf : (Instr.findKey k x (y :: es)).run P w = (Instr.findAsking k x (y :: es)).run P w := by simp [Instr.findKey, run_underlying hk, findNow_ptr]
      rw [hf]
      rcases find_ptr hk he hsz hx (y :: es) 0 hes with h | ⟨j, e', h1, h2, h3⟩
      · exact .inl h
      · exact .inr ⟨j, e', by simpa using h1, h2, h3⟩
  · subst hv
    have h : ∀ n : Nat, Instr.sameBits (n + 1) (.pointer (some ⟨b, 0, none⟩)) (.pointer (some ⟨b, 0, none⟩)) = true := fun n => by
      simp [Instr.sameBits]
    simp only [Instr.keyThatStays, h 9999]
    simp

section
variable {P : Program} {w : World} {k t e : TypeId} {S : Value → Prop} {b : Nat} {es : Array MapEntry} {clock : Nat} {key : Value}

theorem mlook (c : Bool) (K : MKey P w k S) (ht : P.underlying t = some (.map k e)) {z : Value} (hz : (zeroValue e).run P w = .ok z w) (hb : w.heap[b]? = some (.map es clock)) (hS : ∀ x ∈ es.toList, S x.key) (hkey : S key) :
    ((Instr.lookup t (.map (some b)) key c).run P w = .ok (if c then .tuple #[z, .bool false] else z) w ∧ ∀ x ∈ es.toList, x.key ≠ key) ∨
    ∃ e0, e0 ∈ es.toList ∧ e0.key = key ∧ (Instr.lookup t (.map (some b)) key c).run P w = .ok (if c then .tuple #[e0.val, .bool true] else e0.val) w := by
  rcases K.find hkey es.toList hS with ⟨h1, h2⟩ | ⟨j, e0, h1, h2, h3⟩
  · exact .inl ⟨by simp [Instr.lookup, run_underlying ht, MapKept.run_getObj_map hb, K.check _ hkey, h1, hz, Result.andThen], h2⟩
  · exact .inr ⟨e0, List.mem_of_getElem? h2, h3, by simp [Instr.lookup, run_underlying ht, MapKept.run_getObj_map hb, K.check _ hkey, h1, Result.andThen]⟩

theorem mlook_nil (c : Bool) (K : MKey P w k S) (ht : P.underlying t = some (.map k e)) {z : Value} (hz : (zeroValue e).run P w = .ok z w) (hkey : S key) :
    (Instr.lookup t (.map none) key c).run P w = .ok (if c then .tuple #[z, .bool false] else z) w := by
  rcases K.find hkey [] (by simp) with ⟨h1, h2⟩ | ⟨j, e0, h1, h2, h3⟩
  · simp [Instr.lookup, run_underlying ht, K.check _ hkey, h1, hz, Result.andThen]
  · simp at h2

theorem mput (K : MKey P w k S) (ht : P.underlying t = some (.map k e)) (hb : w.heap[b]? = some (.map es clock)) (hS : ∀ x ∈ es.toList, S x.key) (hkey : S key) (val : Value) :
    ∃ es' clock', (Instr.mapUpdate t (.map (some b)) key val).run P w = .ok () (setBlock w b (.map es' clock')) ∧ (∀ x ∈ es'.toList, (x ∈ es.toList ∧ (x.key ≠ key ∨ ∃ y ∈ es'.toList, y.key = key ∧ y.val = val)) ∨ (x.key = key ∧ x.val = val)) ∧ ∃ x ∈ es'.toList, x.key = key ∧ x.val = val := by
  rcases K.find hkey es.toList hS with ⟨h1, h2⟩ | ⟨j, e0, h1, h2, h3⟩
  · refine ⟨es.push ⟨key, val, clock⟩, clock + 1, ?_, ?_, ⟨⟨key, val, clock⟩, by simp, rfl, rfl⟩⟩
    · simp [Instr.mapUpdate, run_underlying ht, MapKept.run_getObj_map hb, K.check false hkey, h1, MapKept.run_setObj_map _ hb, Result.andThen, setBlock]
    · intro x hx
      simp only [Array.toList_push, List.mem_append, List.mem_singleton] at hx
      rcases hx with hx | rfl
      · exact .inl ⟨hx, .inl (h2 x hx)⟩
      · exact .inr ⟨rfl, rfl⟩
  · have hj : es[j]? = some e0 := by simpa using h2
    have hkey2 : (((es[j]?).map (·.key)).getD key) = key := by rw [hj]; exact h3
    have hst := K.stays (v := key) hkey
    have hlt : j < es.size := (Array.getElem?_eq_some_iff.1 hj).1
    have hnew : ({ e0 with key := key, val := val } : MapEntry) ∈ (es.modify j fun x => { x with key, val := val }).toList := by
      have h : (es.modify j fun x => { x with key, val := val })[j]? = some { e0 with key := key, val := val } := by
        simp [Array.getElem?_modify, hj]
      exact Array.mem_toList_iff.2 (Array.mem_of_getElem? h)
    refine ⟨es.modify j fun x => { x with key, val := val }, clock, ?_, ?_, ⟨_, hnew, rfl, rfl⟩⟩
    · simp [Instr.mapUpdate, run_underlying ht, MapKept.run_getObj_map hb, K.check false hkey, h1, MapKept.run_setObj_map _ hb, Result.andThen, setBlock, hj, h3, hst]
    · intro x hx
      obtain ⟨i, hi, rfl⟩ := List.getElem_of_mem hx
      simp only [Array.getElem_toList, Array.getElem_modify]
      split
      · exact .inr ⟨rfl, rfl⟩
      · exact .inl ⟨by simp, .inr ⟨_, hnew, rfl, rfl⟩⟩

end

end Go.Proofs.YtgiaebeoldigbaaDoor

namespace Go.Proofs.YtgiaebeoldigbaaDoor
namespace Pl

/-- the quantifiers: all, some, at least two, three, four -/
inductive Qn where
  | A | S | c2 | c3 | c4

/-- formulas -/
inductive Fm where
  | tru | fls
  | pr (v : Fin 4) | eq (v w : Fin 4) | rel (v w : Fin 4)
  | neg (p : Fm) | con (p q : Fm) | dis (p q : Fm) | qu (k : Qn) (v : Fin 4) (p : Fm)

def Qn.b : Qn → UInt8
  | .A => 65 | .S => 83 | .c2 => 50 | .c3 => 51 | .c4 => 52

/-- how often a quantifier counts -/
def Qn.n : Qn → Nat
  | .A => 1 | .S => 1 | .c2 => 2 | .c3 => 3 | .c4 => 4

/-- the byte of a variable -/
def vb (v : Fin 4) : UInt8 := UInt8.ofNat (97 + v.val)

/-- the operator -/
def Fm.op : Fm → UInt8
  | .tru => 116 | .fls => 102 | .pr _ => 80 | .eq _ _ => 61 | .rel _ _ => 69 | .neg _ => 33 | .con _ _ => 38 | .dis _ _ => 124 | .qu k _ _ => k.b

def Fm.vars : Fm → List (Fin 4)
  | .pr v => [v] | .eq v w => [v, w] | .rel v w => [v, w] | .qu _ v _ => [v] | _ => []

def Fm.parts : Fm → List Fm
  | .neg p => [p] | .con p q => [p, q] | .dis p q => [p, q] | .qu _ _ p => [p] | _ => []

def Fm.text : Fm → List UInt8
  | .tru => [116] | .fls => [102] | .pr v => [80, vb v] | .eq v w => [61, vb v, vb w] | .rel v w => [69, vb v, vb w]
  | .neg p => 33 :: p.text | .con p q => 38 :: (p.text ++ q.text) | .dis p q => 124 :: (p.text ++ q.text) | .qu k v p => k.b :: vb v :: p.text

def Fm.size : Fm → Nat
  | .neg p => p.size + 1 | .con p q => p.size + q.size + 1 | .dis p q => p.size + q.size + 1 | .qu _ _ p => p.size + 1 | _ => 1

theorem Fm.size_parts {f p : Fm} (h : p ∈ f.parts) : p.size < f.size := by
  cases f <;> simp [Fm.parts] at h
  case neg => subst h; simp [Fm.size]
  case con => rcases h with h | h <;> subst h <;> simp [Fm.size] <;> omega
  case dis => rcases h with h | h <;> subst h <;> simp [Fm.size] <;> omega
  case qu => subst h; simp [Fm.size]

theorem Fm.text_eq (f : Fm) : f.text = f.op :: (f.vars.map vb ++ (f.parts.map Fm.text).flatten) := by
  cases f <;> simp [Fm.text, Fm.op, Fm.vars, Fm.parts]

theorem vb_inj {v w : Fin 4} (h : vb v = vb w) : v = w := by
  revert v w; decide

theorem qb_inj {v w : Qn} (h : v.b = w.b) : v = w := by
  cases v <;> cases w <;> first | rfl | (exact absurd h (by decide))

theorem Fm.text_inj : ∀ (f g : Fm) (r s : List UInt8), f.text ++ r = g.text ++ s → f = g ∧ r = s := by
  intro f
  induction f with
  | tru =>
    intro g r s h
    cases g <;> simp [Fm.text] at h ⊢
    · exact h
    · rename_i k _ _; cases k <;> simp [Qn.b] at h
  | fls =>
    intro g r s h
    cases g <;> simp [Fm.text] at h ⊢
    · exact h
    · rename_i k _ _; cases k <;> simp [Qn.b] at h
  | pr v =>
    intro g r s h
    cases g <;> simp [Fm.text] at h ⊢
    · exact ⟨vb_inj h.1, h.2⟩
    · rename_i k _ _; cases k <;> simp [Qn.b] at h
  | eq v w =>
    intro g r s h
    cases g <;> simp [Fm.text] at h ⊢
    · exact ⟨⟨vb_inj h.1, vb_inj h.2.1⟩, h.2.2⟩
    · rename_i k _ _; cases k <;> simp [Qn.b] at h
  | rel v w =>
    intro g r s h
    cases g <;> simp [Fm.text] at h ⊢
    · exact ⟨⟨vb_inj h.1, vb_inj h.2.1⟩, h.2.2⟩
    · rename_i k _ _; cases k <;> simp [Qn.b] at h
  | neg p ih =>
    intro g r s h
    cases g <;> simp [Fm.text] at h ⊢
    · exact ih _ _ _ h
    · rename_i k _ _; cases k <;> simp [Qn.b] at h
  | con p q ihp ihq =>
    intro g r s h
    cases g <;> simp [Fm.text] at h ⊢
    · obtain ⟨h1, h2⟩ := ihp _ _ _ h
      obtain ⟨h3, h4⟩ := ihq _ _ _ h2
      exact ⟨⟨h1, h3⟩, h4⟩
    · rename_i k _ _; cases k <;> simp [Qn.b] at h
  | dis p q ihp ihq =>
    intro g r s h
    cases g <;> simp [Fm.text] at h ⊢
    · obtain ⟨h1, h2⟩ := ihp _ _ _ h
      obtain ⟨h3, h4⟩ := ihq _ _ _ h2
      exact ⟨⟨h1, h3⟩, h4⟩
    · rename_i k _ _; cases k <;> simp [Qn.b] at h
  | qu k v p ih =>
    intro g r s h
    cases g <;> simp [Fm.text] at h ⊢
    case qu =>
      obtain ⟨h1, h2, h3⟩ := h
      obtain ⟨h4, h5⟩ := ih _ _ _ h3
      exact ⟨⟨qb_inj h1, vb_inj h2, h4⟩, h5⟩
    all_goals (cases k <;> simp [Qn.b] at h)

/-- how many variables and how many parts follow an operator -/
def arity (b : UInt8) : Option (Nat × Nat) :=
  if b = 116 then some (0, 0) else if b = 102 then some (0, 0) else if b = 80 then some (1, 0) else if b = 61 then some (2, 0) else if b = 69 then some (2, 0)
  else if b = 33 then some (0, 1) else if b = 38 then some (0, 2) else if b = 124 then some (0, 2)
  else if b = 65 then some (1, 1) else if b = 83 then some (1, 1) else if b = 50 then some (1, 1) else if b = 51 then some (1, 1) else if b = 52 then some (1, 1) else none

theorem arity_op (f : Fm) : arity f.op = some (f.vars.length, f.parts.length) := by
  cases f <;> first | rfl | (rename_i k _ _; cases k <;> rfl)

theorem arity_mk {b : UInt8} {nv np : Nat} (h : arity b = some (nv, np)) (vs : List (Fin 4)) (ps : List Fm) (hv : vs.length = nv) (hp : ps.length = np) :
    ∃ f : Fm, f.op = b ∧ f.vars = vs ∧ f.parts = ps := by
  unfold arity at h
  by_cases hb : b = 116
  · subst hb
    have e : some (0, 0) = some (nv, np) := h
    injection e with e
    injection e with e1 e2
    subst e1 e2
    match vs, hv, ps, hp with
    | [], _, [], _ => exact ⟨.tru, rfl, rfl, rfl⟩
  rw [if_neg hb] at h
  clear hb
  by_cases hb : b = 102
  · subst hb
    have e : some (0, 0) = some (nv, np) := h
    injection e with e
    injection e with e1 e2
    subst e1 e2
    match vs, hv, ps, hp with
    | [], _, [], _ => exact ⟨.fls, rfl, rfl, rfl⟩
  rw [if_neg hb] at h
  clear hb
  by_cases hb : b = 80
  · subst hb
    have e : some (1, 0) = some (nv, np) := h
    injection e with e
    injection e with e1 e2
    subst e1 e2
    match vs, hv, ps, hp with
    | [v], _, [], _ => exact ⟨.pr v, rfl, rfl, rfl⟩
  rw [if_neg hb] at h
  clear hb
  by_cases hb : b = 61
  · subst hb
    have e : some (2, 0) = some (nv, np) := h
    injection e with e
    injection e with e1 e2
    subst e1 e2
    match vs, hv, ps, hp with
    | [v, w], _, [], _ => exact ⟨.eq v w, rfl, rfl, rfl⟩
  rw [if_neg hb] at h
  clear hb
  by_cases hb : b = 69
  · subst hb
    have e : some (2, 0) = some (nv, np) := h
    injection e with e
    injection e with e1 e2
    subst e1 e2
    match vs, hv, ps, hp with
    | [v, w], _, [], _ => exact ⟨.rel v w, rfl, rfl, rfl⟩
  rw [if_neg hb] at h
  clear hb
  by_cases hb : b = 33
  · subst hb
    have e : some (0, 1) = some (nv, np) := h
    injection e with e
    injection e with e1 e2
    subst e1 e2
    match vs, hv, ps, hp with
    | [], _, [p], _ => exact ⟨.neg p, rfl, rfl, rfl⟩
  rw [if_neg hb] at h
  clear hb
  by_cases hb : b = 38
  · subst hb
    have e : some (0, 2) = some (nv, np) := h
    injection e with e
    injection e with e1 e2
    subst e1 e2
    match vs, hv, ps, hp with
    | [], _, [p, q], _ => exact ⟨.con p q, rfl, rfl, rfl⟩
  rw [if_neg hb] at h
  clear hb
  by_cases hb : b = 124
  · subst hb
    have e : some (0, 2) = some (nv, np) := h
    injection e with e
    injection e with e1 e2
    subst e1 e2
    match vs, hv, ps, hp with
    | [], _, [p, q], _ => exact ⟨.dis p q, rfl, rfl, rfl⟩
  rw [if_neg hb] at h
  clear hb
  by_cases hb : b = 65
  · subst hb
    have e : some (1, 1) = some (nv, np) := h
    injection e with e
    injection e with e1 e2
    subst e1 e2
    match vs, hv, ps, hp with
    | [v], _, [p], _ => exact ⟨.qu .A v p, rfl, rfl, rfl⟩
  rw [if_neg hb] at h
  clear hb
  by_cases hb : b = 83
  · subst hb
    have e : some (1, 1) = some (nv, np) := h
    injection e with e
    injection e with e1 e2
    subst e1 e2
    match vs, hv, ps, hp with
    | [v], _, [p], _ => exact ⟨.qu .S v p, rfl, rfl, rfl⟩
  rw [if_neg hb] at h
  clear hb
  by_cases hb : b = 50
  · subst hb
    have e : some (1, 1) = some (nv, np) := h
    injection e with e
    injection e with e1 e2
    subst e1 e2
    match vs, hv, ps, hp with
    | [v], _, [p], _ => exact ⟨.qu .c2 v p, rfl, rfl, rfl⟩
  rw [if_neg hb] at h
  clear hb
  by_cases hb : b = 51
  · subst hb
    have e : some (1, 1) = some (nv, np) := h
    injection e with e
    injection e with e1 e2
    subst e1 e2
    match vs, hv, ps, hp with
    | [v], _, [p], _ => exact ⟨.qu .c3 v p, rfl, rfl, rfl⟩
  rw [if_neg hb] at h
  clear hb
  by_cases hb : b = 52
  · subst hb
    have e : some (1, 1) = some (nv, np) := h
    injection e with e
    injection e with e1 e2
    subst e1 e2
    match vs, hv, ps, hp with
    | [v], _, [p], _ => exact ⟨.qu .c4 v p, rfl, rfl, rfl⟩
  rw [if_neg hb] at h
  clear hb
  cases h

open Classical in
/-- the formula with which a text begins, and the rest of the text -/
noncomputable def parse (l : List UInt8) : Option (Fm × List UInt8) :=
  if h : ∃ x : Fm × List UInt8, l = x.1.text ++ x.2 then some (Classical.choose h) else none

theorem parse_some {l : List UInt8} {f : Fm} {r : List UInt8} : parse l = some (f, r) ↔ l = f.text ++ r := by
  unfold parse
  constructor
  · intro h
    split at h
    · rename_i hx
      have := Classical.choose_spec hx
      injection h with h
      rw [h] at this
      exact this
    · cases h
  · intro h
    have hx : ∃ x : Fm × List UInt8, l = x.1.text ++ x.2 := ⟨(f, r), h⟩
    rw [dif_pos hx]
    have hc := Classical.choose_spec hx
    obtain ⟨h1, h2⟩ := Fm.text_inj _ _ _ _ (hc.symm.trans h)
    congr 1
    exact Prod.ext h1 h2

theorem parse_none {l : List UInt8} : parse l = none ↔ ∀ (f : Fm) (r : List UInt8), l ≠ f.text ++ r := by
  constructor
  · intro h f r e
    rw [parse_some.2 e] at h
    cases h
  · intro h
    cases hp : parse l with
    | none => rfl
    | some x => exact absurd (parse_some.1 hp) (h _ _)

theorem parse_nil : parse [] = none := parse_none.2 fun f r h => by cases f <;> simp [Fm.text] at h

theorem parse_bad {b : UInt8} {l : List UInt8} (h : arity b = none) : parse (b :: l) = none := parse_none.2 fun f r e => by
  rw [Fm.text_eq] at e
  simp at e
  rw [e.1, arity_op] at h
  cases h

/-- the byte of a variable, or none -/
def varOf (b : UInt8) : Option (Fin 4) := if b = 97 then some 0 else if b = 98 then some 1 else if b = 99 then some 2 else if b = 100 then some 3 else none

theorem varOf_vb (v : Fin 4) : varOf (vb v) = some v := by revert v; decide

theorem varOf_some {b : UInt8} {v : Fin 4} : varOf b = some v ↔ b = vb v := by
  constructor
  · intro h
    unfold varOf at h
    split at h; · injection h with h; subst h; assumption
    split at h; · injection h with h; subst h; assumption
    split at h; · injection h with h; subst h; assumption
    split at h; · injection h with h; subst h; assumption
    cases h
  · intro h; subst h; exact varOf_vb v

/-- failing at a variable -/
theorem parse_no_var {b : UInt8} {nv np : Nat} (ha : arity b = some (nv, np)) (vs : List (Fin 4)) (cur : List UInt8) (hk : vs.length < nv)
    (hno : ∀ v r, cur ≠ vb v :: r) : parse (b :: (vs.map vb ++ cur)) = none := parse_none.2 fun f r e => by
  rw [Fm.text_eq] at e
  simp only [List.cons_append, List.cons.injEq, List.append_assoc] at e
  obtain ⟨rfl, e⟩ := e
  rw [arity_op] at ha
  simp at ha
  rcases List.append_eq_append_iff.1 e with ⟨t, h1, h2⟩ | ⟨t, h1, h2⟩
  · have hl : vs.length + t.length = f.vars.length := by have := congrArg List.length h1; simpa using this.symm
    match t, h1, h2, hl with
    | [], _, _, hl => simp at hl; omega
    | x :: t, h1, h2, _ =>
      have : x ∈ f.vars.map vb := by rw [h1]; simp
      obtain ⟨v, _, rfl⟩ := List.mem_map.1 this
      exact hno v _ (by rw [h2]; rfl)
  · have hl : f.vars.length + t.length = vs.length := by have := congrArg List.length h1; simpa using this.symm
    omega

theorem flat_prefix : ∀ (ps qs : List Fm) (cur r : List UInt8), (ps.map Fm.text).flatten ++ cur = (qs.map Fm.text).flatten ++ r → ps.length < qs.length →
    ∃ (f : Fm) (s : List UInt8), cur = f.text ++ s := by
  intro ps
  induction ps with
  | nil =>
    intro qs cur r h hl
    match qs, hl with
    | q :: qs, _ => exact ⟨q, (qs.map Fm.text).flatten ++ r, by simpa using h⟩
  | cons p ps ih =>
    intro qs cur r h hl
    match qs, hl with
    | q :: qs, hl =>
      simp at h hl
      obtain ⟨_, h2⟩ := Fm.text_inj _ _ _ _ h
      exact ih qs cur r (by simpa using h2) hl

/-- failing at a part -/
theorem parse_no_part {b : UInt8} {nv np : Nat} (ha : arity b = some (nv, np)) (vs : List (Fin 4)) (hv : vs.length = nv) (ps : List Fm) (cur : List UInt8) (hk : ps.length < np)
    (hno : parse cur = none) : parse (b :: (vs.map vb ++ ((ps.map Fm.text).flatten ++ cur))) = none := parse_none.2 fun f r e => by
  rw [Fm.text_eq] at e
  simp only [List.cons_append, List.cons.injEq, List.append_assoc] at e
  obtain ⟨rfl, e⟩ := e
  rw [arity_op] at ha
  simp at ha
  have hl : (vs.map vb).length = (f.vars.map vb).length := by simp; omega
  obtain ⟨_, e2⟩ := List.append_inj e hl
  obtain ⟨g, s, hg⟩ := flat_prefix _ _ _ _ e2 (by omega)
  exact parse_none.1 hno g s hg

/-- succeeding -/
theorem parse_all {b : UInt8} {nv np : Nat} (ha : arity b = some (nv, np)) (vs : List (Fin 4)) (hv : vs.length = nv) (ps : List Fm) (hp : ps.length = np) (cur : List UInt8) :
    ∃ f : Fm, f.op = b ∧ f.vars = vs ∧ f.parts = ps ∧ parse (b :: (vs.map vb ++ ((ps.map Fm.text).flatten ++ cur))) = some (f, cur) := by
  obtain ⟨f, rfl, rfl, rfl⟩ := arity_mk ha vs ps hv hp
  exact ⟨f, rfl, rfl, rfl, parse_some.2 (by rw [Fm.text_eq]; simp)⟩

theorem Fm.text_pos (f : Fm) : 0 < f.text.length := by rw [Fm.text_eq]; simp

/-! ### where a formula ends -/

noncomputable def endI (l : List UInt8) (k : Nat) : Int := match parse (l.drop k) with | some (f, _) => ((k + f.text.length : Nat) : Int) | none => -1

theorem endI_some {l : List UInt8} {k : Nat} {f : Fm} {r : List UInt8} (h : l.drop k = f.text ++ r) : endI l k = ((k + f.text.length : Nat) : Int) := by
  unfold endI; rw [parse_some.2 h]

theorem endI_none {l : List UInt8} {k : Nat} (h : parse (l.drop k) = none) : endI l k = -1 := by
  unfold endI; rw [h]

theorem endI_cases (l : List UInt8) (k : Nat) : (parse (l.drop k) = none ∧ endI l k = -1) ∨ ∃ (f : Fm) (r : List UInt8), l.drop k = f.text ++ r ∧ endI l k = ((k + f.text.length : Nat) : Int) := by
  cases h : parse (l.drop k) with
  | none => exact .inl ⟨rfl, endI_none h⟩
  | some x => exact .inr ⟨x.1, x.2, parse_some.1 h, endI_some (parse_some.1 h)⟩

theorem drop_add_of {l : List UInt8} {k : Nat} {p r : List UInt8} (h : l.drop k = p ++ r) : l.drop (k + p.length) = r := by
  rw [← List.drop_drop, h]; simp

theorem endI_le {l : List UInt8} {k : Nat} (hk : k ≤ l.length) : -1 ≤ endI l k ∧ endI l k ≤ l.length := by
  rcases endI_cases l k with ⟨_, h⟩ | ⟨f, r, h1, h⟩
  · rw [h]; omega
  · rw [h]
    have := congrArg List.length h1
    simp at this
    omega

theorem endI_end {l : List UInt8} {k : Nat} (h : l.length ≤ k) : endI l k = -1 := endI_none (by rw [List.drop_eq_nil_of_le h]; exact parse_nil)

theorem endI_bad {l : List UInt8} {k : Nat} {b : UInt8} {r : List UInt8} (h : l.drop k = b :: r) (ha : arity b = none) : endI l k = -1 := endI_none (by rw [h]; exact parse_bad ha)

theorem endI_leaf {l : List UInt8} {k : Nat} {b : UInt8} {r : List UInt8} (h : l.drop k = b :: r) (ha : arity b = some (0, 0)) : endI l k = (k + 1 : Nat) := by
  obtain ⟨f, rfl, h1, h2, h3⟩ := parse_all ha [] rfl [] rfl r
  rw [endI_some (f := f) (r := r) (parse_some.1 (by rw [h]; simpa using h3)), Fm.text_eq, h1, h2]
  simp

/-- the variable at an index, or -1 -/
def varI (l : List UInt8) (k : Nat) : Int := match l[k]? with | some b => (match varOf b with | some v => (v.val : Int) | none => -1) | none => -1

theorem varI_le (l : List UInt8) (k : Nat) : -1 ≤ varI l k ∧ varI l k ≤ 3 := by
  unfold varI
  split
  · split
    · rename_i v _; have := v.isLt; omega
    · omega
  · omega

theorem varI_neg {l : List UInt8} {k : Nat} (h : varI l k < 0) : ∀ v r, l.drop k ≠ vb v :: r := by
  intro v r e
  have : l[k]? = some (vb v) := by
    have h2 : (l.drop k)[0]? = some (vb v) := by rw [e]; rfl
    simpa using h2
  unfold varI at h
  rw [this] at h
  simp only [varOf_vb] at h
  omega

theorem varI_pos {l : List UInt8} {k : Nat} (h : 0 ≤ varI l k) : ∃ v : Fin 4, varI l k = v.val ∧ l.drop k = vb v :: l.drop (k + 1) := by
  unfold varI at h ⊢
  cases hl : l[k]? with
  | none => rw [hl] at h; simp at h
  | some b =>
    rw [hl] at h
    simp only at h ⊢
    cases hv : varOf b with
    | none => rw [hv] at h; simp at h
    | some v =>
      refine ⟨v, rfl, ?_⟩
      obtain ⟨hlt, hb⟩ := List.getElem?_eq_some_iff.1 hl
      rw [List.drop_eq_getElem_cons hlt, hb, varOf_some.1 hv]

theorem endI_var_no {l : List UInt8} {k : Nat} {b : UInt8} {r : List UInt8} {nv np : Nat} (h : l.drop k = b :: r) (ha : arity b = some (nv, np)) (hnv : 0 < nv) (hv : varI l (k + 1) < 0) : endI l k = -1 := by
  have hr : l.drop (k + 1) = r := drop_add_of (p := [b]) (by simpa using h)
  have := parse_no_var ha [] r (by simpa using hnv) (fun v s e => varI_neg hv v s (by rw [hr, e]))
  exact endI_none (by rw [h]; simpa using this)

theorem endI_var2_no {l : List UInt8} {k : Nat} {b : UInt8} {r : List UInt8} {np : Nat} (h : l.drop k = b :: r) (ha : arity b = some (2, np)) (hv : 0 ≤ varI l (k + 1)) (hw : varI l (k + 2) < 0) : endI l k = -1 := by
  have hr : l.drop (k + 1) = r := drop_add_of (p := [b]) (by simpa using h)
  obtain ⟨v, _, h1⟩ := varI_pos hv
  have := parse_no_var ha [v] (l.drop (k + 2)) (by simp) (fun v s e => varI_neg hw v s e)
  exact endI_none (by rw [h, ← hr, h1]; simpa using this)

theorem endI_var1 {l : List UInt8} {k : Nat} {b : UInt8} {r : List UInt8} (h : l.drop k = b :: r) (ha : arity b = some (1, 0)) (hv : 0 ≤ varI l (k + 1)) : endI l k = (k + 2 : Nat) := by
  have hr : l.drop (k + 1) = r := drop_add_of (p := [b]) (by simpa using h)
  obtain ⟨v, _, h1⟩ := varI_pos hv
  obtain ⟨f, rfl, e1, e2, h3⟩ := parse_all ha [v] rfl [] rfl (l.drop (k + 2))
  rw [endI_some (f := f) (r := l.drop (k + 2)) (parse_some.1 (by rw [h, ← hr, h1]; simpa using h3)), Fm.text_eq, e1, e2]
  simp

theorem endI_var2 {l : List UInt8} {k : Nat} {b : UInt8} {r : List UInt8} (h : l.drop k = b :: r) (ha : arity b = some (2, 0)) (hv : 0 ≤ varI l (k + 1)) (hw : 0 ≤ varI l (k + 2)) : endI l k = (k + 3 : Nat) := by
  have hr : l.drop (k + 1) = r := drop_add_of (p := [b]) (by simpa using h)
  obtain ⟨v, _, h1⟩ := varI_pos hv
  obtain ⟨v2, _, h2⟩ := varI_pos hw
  obtain ⟨f, rfl, e1, e2, h3⟩ := parse_all ha [v, v2] rfl [] rfl (l.drop (k + 3))
  rw [endI_some (f := f) (r := l.drop (k + 3)) (parse_some.1 (by rw [h, ← hr, h1, h2]; simpa using h3)), Fm.text_eq, e1, e2]
  simp

theorem endI_neg {l : List UInt8} {k : Nat} {b : UInt8} {r : List UInt8} (h : l.drop k = b :: r) (ha : arity b = some (0, 1)) : endI l k = endI l (k + 1) := by
  have hr : l.drop (k + 1) = r := drop_add_of (p := [b]) (by simpa using h)
  rcases endI_cases l (k + 1) with ⟨h1, h2⟩ | ⟨p, s, h1, h2⟩
  · rw [h2]
    have := parse_no_part ha [] rfl [] r (by simp) (by rw [← hr]; exact h1)
    exact endI_none (by rw [h]; simpa using this)
  · rw [h2]
    obtain ⟨f, rfl, e1, e2, h3⟩ := parse_all ha [] rfl [p] rfl s
    rw [endI_some (f := f) (r := s) (parse_some.1 (by rw [h, ← hr, h1]; simpa using h3)), Fm.text_eq, e1, e2]
    simp; omega

theorem endI_qu {l : List UInt8} {k : Nat} {b : UInt8} {r : List UInt8} (h : l.drop k = b :: r) (ha : arity b = some (1, 1)) (hv : 0 ≤ varI l (k + 1)) : endI l k = endI l (k + 2) := by
  have hr : l.drop (k + 1) = r := drop_add_of (p := [b]) (by simpa using h)
  obtain ⟨v, _, hv1⟩ := varI_pos hv
  rcases endI_cases l (k + 2) with ⟨h1, h2⟩ | ⟨p, s, h1, h2⟩
  · rw [h2]
    have := parse_no_part ha [v] rfl [] (l.drop (k + 2)) (by simp) h1
    exact endI_none (by rw [h, ← hr, hv1]; simpa using this)
  · rw [h2]
    obtain ⟨f, rfl, e1, e2, h3⟩ := parse_all ha [v] rfl [p] rfl s
    rw [endI_some (f := f) (r := s) (parse_some.1 (by rw [h, ← hr, hv1, h1]; simpa using h3)), Fm.text_eq, e1, e2]
    simp; omega

theorem endI_two_no {l : List UInt8} {k : Nat} {b : UInt8} {r : List UInt8} (h : l.drop k = b :: r) (ha : arity b = some (0, 2)) (h1 : endI l (k + 1) < 0) : endI l k = -1 := by
  have hr : l.drop (k + 1) = r := drop_add_of (p := [b]) (by simpa using h)
  rcases endI_cases l (k + 1) with ⟨h2, _⟩ | ⟨p, s, _, h2⟩
  · have := parse_no_part ha [] rfl [] r (by simp) (by rw [← hr]; exact h2)
    exact endI_none (by rw [h]; simpa using this)
  · rw [h2] at h1; omega

theorem endI_two {l : List UInt8} {k : Nat} {b : UInt8} {r : List UInt8} {m : Nat} (h : l.drop k = b :: r) (ha : arity b = some (0, 2)) (h1 : endI l (k + 1) = (m : Int)) : endI l k = endI l m := by
  have hr : l.drop (k + 1) = r := drop_add_of (p := [b]) (by simpa using h)
  rcases endI_cases l (k + 1) with ⟨_, h2⟩ | ⟨p, s, hp, h2⟩
  · rw [h2] at h1; omega
  · have hm : m = k + 1 + p.text.length := by rw [h2] at h1; omega
    have hs : l.drop m = s := by rw [hm]; exact drop_add_of hp
    rcases endI_cases l m with ⟨g1, g2⟩ | ⟨q, s2, g1, g2⟩
    · rw [g2]
      have := parse_no_part ha [] rfl [p] s (by simp) (by rw [← hs]; exact g1)
      exact endI_none (by rw [h, ← hr, hp]; simpa using this)
    · rw [g2]
      obtain ⟨f, rfl, e1, e2, h3⟩ := parse_all ha [] rfl [p, q] rfl s2
      rw [endI_some (f := f) (r := s2) (parse_some.1 (by rw [h, ← hr, hp, ← hs, g1]; simpa using h3)), Fm.text_eq, e1, e2]
      simp; omega

/-! ### formulas of at most 4000 bytes -/

/-- a text is a formula -/
def IsFm (l : List UInt8) : Prop := l.length ≤ 4000 ∧ ∃ f : Fm, l = f.text

theorem isFm_iff {l : List UInt8} : IsFm l ↔ l.length ≤ 4000 ∧ endI l 0 = l.length := by
  unfold IsFm
  constructor
  · rintro ⟨h, f, rfl⟩
    exact ⟨h, by rw [endI_some (f := f) (r := []) (by simp)]; simp⟩
  · rintro ⟨h, e⟩
    refine ⟨h, ?_⟩
    rcases endI_cases l 0 with ⟨_, h2⟩ | ⟨f, r, h1, h2⟩
    · rw [h2] at e; omega
    · refine ⟨f, ?_⟩
      have h3 : f.text.length = l.length := by rw [h2] at e; omega
      have h4 := congrArg List.length h1
      simp only [List.drop_zero, List.length_append] at h4
      have h5 : r = [] := List.eq_nil_of_length_eq_zero (by omega)
      simpa [h5] using h1

end Pl
end Go.Proofs.YtgiaebeoldigbaaDoor
