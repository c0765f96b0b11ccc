/-
  Laws of the functions that the claim reaches, one after the other (packed by a program of the prover's: Reg3, Part, Placed, EachA, App, Draw7, Draw10, Plain, SpecA, ImplA). Conditions: texts below the reach.
-/
import Derived.Test.YtgiaebeoldigbaaDoorPo0
import Derived.Maps.AppendAt
import Derived.Deep.DrawnRows
import Derived.Test.YtgiaebeoldigbaaDoorPo2
import Derived.Deep.AppendLies
import Derived.KernelRfl
import Derived.Test.YtgiaebeoldigbaaDoorRows
import Derived.WalkKit
import Derived.WalkSpells
import Derived.Lib.Hide
import Derived.Lib.Bytealg
import Derived.Lib.IndexBytes
set_option linter.unusedSimpArgs false
set_option linter.unusedVariables false

namespace Go.Proofs.YtgiaebeoldigbaaDoor
namespace R3
open Go.RowKit
set_option linter.unusedVariables false

/-- orders: an operation that is taken first, one that alone may come up, two that may -/
inductive Tr where
  | nil
  | take (i : Nat) (t : Tr)
  | one (i : Nat) (t : Tr)
  | two (i j : Nat) (t u : Tr)

section
variable {P : Program} {ops : Array Oper} {Q : Exit → Act → World → Prop} {md : Region.Mode} {S : World → Prop}

def okR (md : Region.Mode) (ops : Array Oper) : Tr → Nat → Array Bool → Bool
  | .nil, n, l => n == 0 && (Region.ready md ops l).isEmpty
  | .take i t, n, l => n != 0 && (Region.free md ops l i && ((Region.ready md ops l).contains i && okR md ops t (n - 1) (l.setIfInBounds i true)))
  | .one i t, n, l => n != 0 && ((Region.ready md ops l == [i]) && okR md ops t (n - 1) (l.setIfInBounds i true))
  | .two i j t u, n, l => n != 0 && ((Region.ready md ops l == [i, j]) && (okR md ops t (n - 1) (l.setIfInBounds i true) && okR md ops u (n - 1) (l.setIfInBounds j true)))

def wpR (P : Program) (ops : Array Oper) (Q : Exit → Act → World → Prop) (S : World → Prop) : Tr → Act → World → Prop
  | .nil, a, w => Q .normal a w
  | .take i t, a, w => ∃ o v, ops[i]? = some o ∧ YieldsIf P ops S o v a ∧ wpR P ops Q S t (a.put o.dst v) w
  | .one i t, a, w => wpOp P ops Q i (fun a' w' => S w' ∧ wpR P ops Q S t a' w') a w
  | .two i j t u, a, w => wpOp P ops Q i (fun a' w' => S w' ∧ wpR P ops Q S t a' w') a w ∧ wpOp P ops Q j (fun a' w' => S w' ∧ wpR P ops Q S u a' w') a w

theorem anyH_tree (hs : Region.noSelect ops = true) (hQ : ∀ t c a w, Q (.panic c) { a with tmps := t } w → Q (.panic c) a w) :
    ∀ (t : Tr) (n : Nat) (l : Array Bool) (a : Act) (w : World), okR md ops t n l = true → S w → wpR P ops Q S t a w → wpAnyH P md ops Q S n l a w := by
  intro t
  induction t with
  | nil =>
    intro n l a w h _ hw
    simp only [okR, Bool.and_eq_true, beq_iff_eq, List.isEmpty_iff] at h
    obtain ⟨rfl, h2⟩ := h
    exact ⟨h2, hw⟩
  | take i t ih =>
    intro n l a w h hS hw
    simp only [okR, Bool.and_eq_true, bne_iff_ne] at h
    obtain ⟨hn, h1, h2, h3⟩ := h
    obtain ⟨m, rfl⟩ : ∃ m, n = m + 1 := ⟨n - 1, by omega⟩
    obtain ⟨o, v, ho, hy, hr⟩ := hw
    exact wpAnyH_take ho hs h1 h2 (fun c a w h => by cases hd : o.dst with | none => rw [hd] at h; exact h | some d => rw [hd] at h; exact hQ _ c a w h) hy hS (ih _ _ _ _ h3 hS hr)
  | one i t ih =>
    intro n l a w h hS hw
    simp only [okR, Bool.and_eq_true, bne_iff_ne, beq_iff_eq] at h
    obtain ⟨hn, h1, h3⟩ := h
    obtain ⟨m, rfl⟩ : ∃ m, n = m + 1 := ⟨n - 1, by omega⟩
    refine wpAnyH_all h1 (by simp) fun j hj => ?_
    obtain rfl : j = i := by simpa using hj
    exact wpOp_mono (fun a' w' hk => ⟨hk.1, ih _ _ _ _ h3 hk.1 hk.2⟩) hw
  | two i j t u iht ihu =>
    intro n l a w h hS hw
    simp only [okR, Bool.and_eq_true, bne_iff_ne, beq_iff_eq] at h
    obtain ⟨hn, h1, h3, h4⟩ := h
    obtain ⟨m, rfl⟩ : ∃ m, n = m + 1 := ⟨n - 1, by omega⟩
    refine wpAnyH_all h1 (by simp) fun k hk => ?_
    have hk2 : k = i ∨ k = j := by simpa using hk
    rcases hk2 with rfl | rfl
    · exact wpOp_mono (fun a' w' hk => ⟨hk.1, iht _ _ _ _ h3 hk.1 hk.2⟩) hw.1
    · exact wpOp_mono (fun a' w' hk => ⟨hk.1, ihu _ _ _ _ h4 hk.1 hk.2⟩) hw.2

/-- the same, behind a name that nothing unfolds -/
structure Sd (P : Program) (ops : Array Oper) (Q : Exit → Act → World → Prop) (S : World → Prop) (t : Tr) (a : Act) (w : World) : Prop where
  out : wpR P ops Q S t a w

theorem region_tree {id : Nat} {a : Act} {w : World} (t : Tr) (S : World → Prop) (hm : P.follows .mixedOrders = true) (hs : Region.noSelect ops = true)
    (hk : okR .any ops t ops.size (Array.replicate ops.size false) = true) (hQ : ∀ t c a w, Q (.panic c) { a with tmps := t } w → Q (.panic c) a w) (hS : S w.drew)
    (h : ∀ Q' : Exit → Act → World → Prop, Hid (∀ a' w', Q .normal a' w' → Q' .normal a' w') → Sd P ops Q' S t a w.drew) : (Code.region id ops true).wp P Q a w :=
  wp_region_held (S := S) hm (anyH_tree (md := .any) (S := S) hs hQ t ops.size _ a w.drew hk hS (h Q (Lib.hid fun _ _ h => h)).out)

theorem tree_take {i : Nat} {t : Tr} {a : Act} {w : World} {o : Oper} {v : Value} {a' : Act} (ho : ops[i]? = some o) (hw : Region.wanted o (yielded ops a.tmps) = true) (hy : ∀ w, S w → (execOp a.eval o).run P w = .ok (.value v) w)
    {d : Tmp} (hd : o.dst = some d) (ha : a.put (some d) v = a') (h : Sd P ops Q S t a' w) : Sd P ops Q S (.take i t) a w := ⟨⟨o, v, ho, .inl ⟨hw, hy⟩, by rw [hd, ha]; exact h.out⟩⟩
theorem tree_one {i : Nat} {t : Tr} {a : Act} {w : World} {o : Oper} (ho : ops[i]? = some o) (hw : Region.wanted o (yielded ops a.tmps) = true)
    (h : ∀ K : Act → World → Prop, Hid (∀ a' w', S w' → Sd P ops Q S t a' w' → K a' w') → o.wp P a w K Q) : Sd P ops Q S (.one i t) a w := by
  refine ⟨?_⟩
  show wpOp P ops Q i _ a w
  unfold wpOp
  simp only [ho, hw, if_true]
  exact .inl (h _ (Lib.hid fun _ _ h1 h2 => ⟨h1, h2.out⟩))
theorem tree_two {i j : Nat} {t u : Tr} {a : Act} {w : World} (h1 : Sd P ops Q S (.one i t) a w) (h2 : Sd P ops Q S (.one j u) a w) : Sd P ops Q S (.two i j t u) a w := ⟨⟨h1.out, h2.out⟩⟩
theorem tree_lay {t : Tr} {a a' : Act} {w : World} (ha : a = a') (h : Sd P ops Q S t a' w) : Sd P ops Q S t a w := by rw [ha]; exact h
theorem tree_done {a : Act} {w : World} (h : Q .normal a w) : Sd P ops Q S .nil a w := ⟨h⟩

/-- an append, at an operation -/
theorem wp_app {o : Oper} {a : Act} {w : World} {K : Act → World → Prop} (s x : Operand) (t : TypeId)
    (ho : o.op = .call { callee := .builtin .append, args := #[s, x], argTypes := #[t, t] })
    (base : Nat) (e : TypeId) (i : TypeInfo) (z : Value) (size bytes : Nat) (ht : P.underlying t = some (.slice e)) (hi : P.info? e = some i) (hz : i.zero = some z)
    (hsize : i.size = size) (hby : i.bytes = bytes) (hzs : z.cells.size = size) (hsz : 0 < size)
    (v : Value) (n : Nat) (xs : List Value) (hs : a.eval s = v) (hown : w.ownsRow base e size v n xs)
    (ad : Addr) (m c : Nat) (news : List Value) (hx : a.eval x = .slice (some ad) m c) (hl : news.length = m * size) (hnews : ∀ j u, news[j]? = some u → w.cell? (ad.add j) = some u) (h1 : ∀ u ∈ news, u.oneCell' = true)
    (h63 : n + m ≤ maxLen) (hbytes : (n + m) * bytes ≤ 140737488355328) (hbase : base ≤ w.heap.size)
    (h : ∀ v' w', w'.ownsRow base e size v' (n + m) (xs ++ news) → w.grownBy w' v.ownBlock → K (a.put o.dst v') w') : o.wp P a w K Q := by
  obtain ⟨v', w', hr, h2, h3, _, _⟩ := run_append_own_at (P := P) w base t o.type e i z size bytes ht hi hz hsize hby hzs hsz v n xs hown ad m c news hl hnews h1 h63 hbytes hbase
  unfold Oper.wp execOp
  simp only [ho, resolve, invoke, builtin, Sem.run_bind, Sem.run_pure, Result.andThen_ok, List.map_toArray, List.map_cons, List.map_nil, hs, hx, hr]
  exact h v' w' h2 h3
end
end R3
end Go.Proofs.YtgiaebeoldigbaaDoor

namespace Go.Proofs.YtgiaebeoldigbaaDoor
open Go.RowKit
open Pl
set_option linter.unusedSimpArgs false
set_option linter.unusedVariables false

theorem notEl_calls (i x : Int) (s r : ByteArray) (bb : Nat) (w : World) (hb : Bx w bb 24 #[.int .i64 i, .string s, .string r]) :
    Calls Tryd.prog 76 #[.int .i64 x, .pointer (some ⟨bb, 0, none⟩)] w fun e w' => e = .returned (.bool (!elB i x)) ∧ Below w.heap.size w w' := by
  obtain ⟨k0, k1, k2⟩ := box_load hb
  clear hb
  unfold elB
  by_cases h0 : 0 ≤ x
  · have d0 : decide (x < 0) = false := decide_eq_false (by omega)
    rw [decide_eq_true h0]
    have hv : (!(true && decide (x < i))) = decide (i ≤ x) := by
      rw [Bool.true_and, ← decide_not, decide_eq_decide]; omega
    rw [hv]
    clear hv
    go_enter Tryd.func76, Tryd.ntmps76
    go_wp2_with fail
    all_goals
      go_ret
      exact ⟨rfl, Below.refl _ _⟩
  · have d0 : decide (x < 0) = true := decide_eq_true (by omega)
    rw [decide_eq_false h0]
    go_enter Tryd.func76, Tryd.ntmps76
    go_wp2_with fail
    all_goals
      go_ret
      exact ⟨rfl, Below.refl _ _⟩

set_option maxHeartbeats 400000 in
theorem IndexFunc_calls (A : Option Addr) (zs : List Int) (cap : Nat) (p : Int → Bool) (F : FuncId) (fF cF : Array Value) (w : World) (hn : zs.length ≤ 1048576) (hA : LRow w A zs)
    (eF : ∀ (args : Array Value) (W : World), (callFunc F args).run Tryd.prog W = .ok (.enter F args) W)
    (hF : ∀ (x : Int) (W : World), x ∈ zs → Below w.heap.size w W → Calls Tryd.prog F (fF.push (.int .i64 x) ++ cF) W fun e W' => e = .returned (.bool (p x)) ∧ Below W.heap.size W W') :
    Calls Tryd.prog 96 #[.slice A zs.length cap, .func (.func F) fF cF] w fun e w' => (∃ m : Int, e = .returned (.int .i64 m) ∧ (0 ≤ m ↔ zs.any p = true)) ∧ Below w.heap.size w w' := by
  have HA := Lib.hid hA
  have HF := Lib.hid hF
  clear hA hF
  go_enter Tryd.func96, Tryd.ntmps96
  go_wp2_with fail
  go_loopg [8] zs.length (fun c i wr => ∃ k : Nat, k + c = zs.length ∧ i = .int .i64 k ∧ (zs.take k).any p = false ∧ Below w.heap.size w wr)
  case atStart => exact ⟨0, by omega, rfl, rfl, Below.refl _ _⟩
  case round =>
    obtain ⟨k, hk, rfl, hno, hbr⟩ := hrel
    have Hno := Lib.hid hno
    have Hbr := Lib.hid hbr
    clear hno hbr
    by_cases hlt : k < zs.length
    · obtain ⟨g, rfl, hc⟩ := (HA.out.call Hbr.out) (by omega)
      have hck := hc k hlt
      have hmem := getD_mem hlt
      have htk : (zs.take (k + 1)).any p = ((zs.take k).any p || p (zs.getD k 0)) := by
        rw [List.take_succ_eq_append_getElem hlt, List.any_append]
        simp [List.getD, hlt]
      obtain ⟨z, hz⟩ : ∃ z, z = zs.getD k 0 := ⟨_, rfl⟩
      rw [← hz] at hck hmem htk
      have hcall := HF.out z wr hmem Hbr.out
      clear hc hz
      cases hp : p z with
      | true =>
        rw [hp] at hcall
        have hany : zs.any p = true := List.any_eq_true.2 ⟨z, hmem, hp⟩
        have Hany := Lib.hid hany
        have Hcall := Lib.hid hcall
        clear hcall hmem htk hp hany
        go_wp2_with fail
        refine (Hcall.out).mono ?_
        rintro e w2 ⟨rfl, hb2⟩
        go_wp2_with fail
        go_ret
        exact ⟨⟨_, rfl, ⟨fun _ => Hany.out, fun _ => by omega⟩⟩, Hbr.out.trans (hb2.mono Hbr.out.size)⟩
      | false =>
        rw [hp] at hcall htk
        have Hcall := Lib.hid hcall
        have Htk := Lib.hid htk
        clear hcall hmem htk hp
        go_wp2_with fail
        refine (Hcall.out).mono ?_
        rintro e w2 ⟨rfl, hb2⟩
        have Hb2 := Lib.hid hb2
        clear hb2
        go_wp2_with fail
        go_roundg (gk - 1)
        case rel => exact ⟨k + 1, by omega, by go_num, by rw [Htk.out, Hno.out]; rfl, Hbr.out.trans (Hb2.out.mono Hbr.out.size)⟩
        case measure => omega
    · have hall : zs.any p = false := by
        have := Hno.out
        rwa [List.take_of_length_le (by omega)] at this
      have Hall := Lib.hid hall
      clear hall
      go_wp2_with fail
      go_ret
      exact ⟨⟨_, rfl, ⟨fun h => absurd h (by decide), fun h => by rw [Hall.out] at h; cases h⟩⟩, Hbr.out⟩

theorem ContainsFunc_calls (A : Option Addr) (zs : List Int) (cap : Nat) (p : Int → Bool) (F : FuncId) (fF cF : Array Value) (w : World) (hn : zs.length ≤ 1048576) (hA : LRow w A zs)
    (eF : ∀ (args : Array Value) (W : World), (callFunc F args).run Tryd.prog W = .ok (.enter F args) W)
    (hF : ∀ (x : Int) (W : World), x ∈ zs → Below w.heap.size w W → Calls Tryd.prog F (fF.push (.int .i64 x) ++ cF) W fun e W' => e = .returned (.bool (p x)) ∧ Below W.heap.size W W') :
    Calls Tryd.prog 75 #[.slice A zs.length cap, .func (.func F) fF cF] w fun e w' => e = .returned (.bool (zs.any p)) ∧ Below w.heap.size w w' := by
  have hc := IndexFunc_calls A zs cap p F fF cF w hn hA eF hF
  have Hc := Lib.hid hc
  clear hc hA hF
  go_enter Tryd.func75, Tryd.ntmps75
  go_wp2_with fail
  refine (Hc.out).mono ?_
  rintro e w' ⟨⟨m, rfl, hm⟩, hb⟩
  have Hm := Lib.hid hm
  have Hb := Lib.hid hb
  clear hm hb
  go_wp2_with fail
  go_ret
  refine ⟨?_, Hb.out⟩
  show Ending.returned (.bool (decide (0 ≤ m))) = _
  congr 2
  rw [Bool.eq_iff_iff, decide_eq_true_eq]
  exact Hm.out

def elAll (i : Int) (zs : List Int) : Bool := zs.all (elB i)
def nodB (zs : List Int) : Bool := decide zs.Nodup

theorem enter_notEl : ∀ (args : Array Value) (w : World), (callFunc 76 args).run Tryd.prog w = .ok (.enter 76 args) w := enter_of Tryd.func76 (by kernel_rfl) (by kernel_rfl)

theorem areElements_calls (i : Int) (s r : ByteArray) (A : Option Addr) (zs : List Int) (cap : Nat) (w : World) (hn : zs.length ≤ 1048576) (hA : LRow w A zs) :
    Calls Tryd.prog 44 #[stV i s r, .slice A zs.length cap] w fun e w' => e = .returned (.bool (elAll i zs)) ∧ Below w.heap.size w w' := by
  have hx := Bx.new w 24 #[.int .i64 i, .string s, .string r]
  have hc := ContainsFunc_calls A zs cap (fun x => !elB i x) 76 #[] #[.pointer (some ⟨w.heap.size, 0, none⟩)] (w.alloc (.cells #[.int .i64 i, .string s, .string r] 24)) hn (hA.alloc _) enter_notEl
    (fun x W _ hW => notEl_calls i x s r w.heap.size W (hx.call hW))
  have hv : (!(zs.any fun x => !elB i x)) = elAll i zs := by
    unfold elAll
    rw [Bool.eq_iff_iff]
    simp [List.any_eq_true, List.all_eq_true]
  obtain ⟨b, hb⟩ : ∃ b, b = zs.any fun x => !elB i x := ⟨_, rfl⟩
  rw [← hb] at hc hv
  rw [← hv]
  have Hc := Lib.hid hc
  clear hc hA hx hv hb
  go_enter Tryd.func44, Tryd.ntmps44
  go_wp2_with fail
  refine (Hc.out).mono ?_
  rintro e w' ⟨rfl, hb⟩
  have HB := Lib.hid (box_next (box_refl w _) hb)
  clear hb
  go_wp2_with fail
  go_ret
  exact ⟨rfl, box_down HB.out⟩

set_option maxHeartbeats 400000 in
theorem allDifferent_calls (A : Option Addr) (zs : List Int) (cap : Nat) (w : World) (hn : zs.length ≤ 1048576) (hcap : zs.length ≤ cap) (hA : LRow w A zs) :
    Calls Tryd.prog 83 #[.slice A zs.length cap] w fun e w' => e = .returned (.bool (nodB zs)) ∧ w = w' := by
  have HA := Lib.hid hA
  clear hA
  obtain ⟨V, hV⟩ : ∃ V, V = nodB zs := ⟨_, rfl⟩
  rw [← hV]
  have HV := Lib.hid hV
  clear hV
  go_enter Tryd.func83, Tryd.ntmps83
  go_wp2_with fail
  go_loop [7] (fun i => ∃ k : Nat, k ≤ zs.length ∧ i = .int .i64 k ∧ (zs.take k).Nodup) (fun i => zs.length - (intOf i).toNat)
  case atStart => exact ⟨0, Nat.zero_le _, rfl, by simp⟩
  case round =>
    obtain ⟨k, hk, rfl, hnd⟩ := hrel
    have Hnd := Lib.hid hnd
    clear hnd
    by_cases hlt : k < zs.length
    · have hcon := Contains_calls A (zs.take k) cap (zs.getD k 0) w (by rw [List.length_take]; omega) (HA.out.take k)
      rw [List.length_take, Nat.min_eq_left (by omega)] at hcon
      have hstep : (zs.take (k + 1)).Nodup ↔ (zs.take k).Nodup ∧ ¬ zs.getD k 0 ∈ zs.take k := by
        rw [List.take_succ_eq_append_getElem hlt, List.nodup_append]
        have e : zs.getD k 0 = zs[k] := by simp [List.getD, hlt]
        rw [e]
        simp only [List.mem_singleton]
        constructor
        · rintro ⟨h1, _, h2⟩; exact ⟨h1, fun h => h2 _ h _ rfl rfl⟩
        · rintro ⟨h1, h2⟩; exact ⟨h1, by simp, fun x hx y hy e => by subst hy; subst e; exact h2 hx⟩
      obtain ⟨g, rfl, hc⟩ := HA.out (by omega)
      have hck := hc k hlt
      have hwh : zs.Nodup → (zs.take (k + 1)).Nodup := fun h => h.sublist (List.take_sublist _ _)
      have hkc : (k : Int) ≤ (cap : Int) := by omega
      obtain ⟨z, hz⟩ : ∃ z, z = zs.getD k 0 := ⟨_, rfl⟩
      rw [← hz] at hcon hck hstep
      clear hc hz
      by_cases hin : z ∈ zs.take k
      · rw [decide_eq_true hin] at hcon
        have hno : nodB zs = false := decide_eq_false fun h => (hstep.1 (hwh h)).2 hin
        have Hno := Lib.hid hno
        have Hcon := Lib.hid hcon
        clear hcon hstep hwh hin hno
        go_wp2_with fail
        refine (Hcon.out).mono ?_
        rintro e w' ⟨rfl, rfl⟩
        go_wp2_with fail
        go_ret
        exact ⟨by rw [HV.out, Hno.out]; rfl, rfl⟩
      · rw [decide_eq_false hin] at hcon
        have hnext := hstep.2 ⟨Hnd.out, hin⟩
        have Hnext := Lib.hid hnext
        have Hcon := Lib.hid hcon
        clear hcon hstep hwh hin hnext
        go_wp2_with fail
        refine (Hcon.out).mono ?_
        rintro e w' ⟨rfl, rfl⟩
        go_wp2_with fail
        go_round
        case rel => exact ⟨k + 1, by omega, by go_num, Hnext.out⟩
        case measure => simp [intOf]; omega
    · have hall : nodB zs = true := by
        have := Hnd.out
        rw [List.take_of_length_le (by omega)] at this
        exact decide_eq_true this
      have Hall := Lib.hid hall
      clear hall
      go_wp2_with fail
      go_ret
      exact ⟨by rw [HV.out, Hall.out]; rfl, rfl⟩

/-- numbers that are elements, as natural numbers -/
def natsI (ns : List Nat) : List Int := ns.map fun x : Nat => (x : Int)
theorem natsI_len (ns : List Nat) : (natsI ns).length = ns.length := by simp [natsI]
theorem natsI_get (ns : List Nat) (k : Nat) : (natsI ns).getD k 0 = ((ns.getD k 0 : Nat) : Int) := by
  unfold natsI
  simp only [List.getD_eq_getElem?_getD, List.getElem?_map]
  cases ns[k]? <;> rfl

theorem LRow.nats {w : World} {A : Option Addr} {ns : List Nat} (h : LRow w A (natsI ns)) {k : Nat} (hk : k < ns.length) : ∃ g, A = some ⟨g, 0, none⟩ ∧ w.cell? ⟨g, k, none⟩ = some (.int .i64 ((ns.getD k 0 : Nat) : Int)) := by
  obtain ⟨g, rfl, hc⟩ := h (by rw [natsI_len]; omega)
  exact ⟨g, rfl, by rw [hc k (by rw [natsI_len]; exact hk), natsI_get]⟩

theorem getD_lt {n : Nat} {ns : List Nat} (h : ∀ x ∈ ns, x < n) {k : Nat} (hk : k < ns.length) : ns.getD k 0 < n := h _ (by
  simp only [List.getD_eq_getElem?_getD, List.getElem?_eq_getElem hk, Option.getD_some]
  exact List.getElem_mem hk)

set_option maxHeartbeats 1000000 in
theorem part1_calls (a : St) (ha : a.ok) (ns : List Nat) (hns : ∀ x ∈ ns, x < a.n) (hl : ns.length ≤ 8) (A : Option Addr) (cap : Nat) (x : Nat) (hx : x < ns.length) (ba bl : Nat) (w : World)
    (hb : Bx w ba 24 #[.int .i64 a.n, .string (bs a.set), .string (bs a.rel)]) (hbl : Bx w bl 25 #[.slice A ns.length cap]) (hA : LRow w A (natsI ns)) :
    Calls Tryd.prog 102 #[.int .i64 x, .pointer (some ⟨ba, 0, none⟩), .pointer (some ⟨bl, 0, none⟩)] w fun e w' => e = .returned (.bool (a.inS (ns.getD x 0))) ∧ Below w.heap.size w w' := by
  obtain ⟨k0, k1, k2⟩ := box_load hb
  have l0 := hbl.cell 0
  simp at l0
  obtain ⟨g, rfl, c0⟩ := hA.nats hx
  have hlt := getD_lt hns hx
  have hcall := fun W => inSet_calls a ha (ns.getD x 0) hlt W
  generalize ns.getD x 0 = y at c0 hlt hcall
  generalize ns.length = n at l0 hx hl
  have Hcall := Lib.hid hcall
  have i1 : (0 : Int) ≤ (x : Int) := by omega
  have i2 : (x : Int) < (n : Int) := by omega
  clear hb hbl hA hcall
  go_enter Tryd.func102, Tryd.ntmps102
  go_wp2_with fail
  go_region_held3 (fun w' => w'.cell? ⟨ba, 0, none⟩ = some (.int .i64 a.n) ∧ w'.cell? ⟨ba, 1, none⟩ = some (.string (bs a.set)) ∧ w'.cell? ⟨ba, 2, none⟩ = some (.string (bs a.rel)) ∧ w'.cell? ⟨bl, 0, none⟩ = some (.slice (some ⟨g, 0, none⟩) n cap) ∧ w'.cell? ⟨g, x, none⟩ = some (.int .i64 y)) (first | go_keep | exact ⟨m0, m1, m2, m3, m4⟩) (first | (go_at_call 53; (with_reducible refine (Hcall.out _).mono ?_); rintro e w2 ⟨rfl, hz⟩; have m0 := (hz.cell (World.block_lt_of_cell? _ _ k0)).trans k0; have m1 := (hz.cell (World.block_lt_of_cell? _ _ k1)).trans k1; have m2 := (hz.cell (World.block_lt_of_cell? _ _ k2)).trans k2; have m3 := (hz.cell (World.block_lt_of_cell? _ _ l0)).trans l0; have m4 := (hz.cell (World.block_lt_of_cell? _ _ c0)).trans c0; have Hz := Lib.hid hz; clear hz))
  all_goals
    go_wp2_with fail
    go_ret
    exact ⟨rfl, (Below.refl w.heap.size w).drew.trans (Hz.out.mono (Nat.le_refl _))⟩

set_option maxHeartbeats 1000000 in
theorem part2_calls (a : St) (ha : a.ok) (ns : List Nat) (hns : ∀ x ∈ ns, x < a.n) (hl : ns.length ≤ 8) (A : Option Addr) (cap : Nat) (x x2 : Nat) (hx : x < ns.length) (hx2 : x2 < ns.length) (ba bl : Nat) (w : World)
    (hb : Bx w ba 24 #[.int .i64 a.n, .string (bs a.set), .string (bs a.rel)]) (hbl : Bx w bl 25 #[.slice A ns.length cap]) (hA : LRow w A (natsI ns)) :
    Calls Tryd.prog 103 #[.int .i64 x, .int .i64 x2, .pointer (some ⟨ba, 0, none⟩), .pointer (some ⟨bl, 0, none⟩)] w fun e w' => e = .returned (.bool (a.inR (ns.getD x 0) (ns.getD x2 0))) ∧ Below w.heap.size w w' := by
  obtain ⟨k0, k1, k2⟩ := box_load hb
  have l0 := hbl.cell 0
  simp at l0
  obtain ⟨g, rfl, c0⟩ := hA.nats hx
  obtain ⟨g', hg', c1⟩ := hA.nats hx2
  obtain rfl : g = g' := by injection hg' with h; injection h
  have hlt := getD_lt hns hx
  have hlt2 := getD_lt hns hx2
  have hcall := fun W => inRel_calls a ha (ns.getD x 0) (ns.getD x2 0) hlt hlt2 W
  generalize ns.getD x 0 = y at c0 hlt hcall
  generalize ns.getD x2 0 = y2 at c1 hlt2 hcall
  generalize ns.length = n at l0 hx hx2 hl
  have Hcall := Lib.hid hcall
  have i1 : (0 : Int) ≤ (x : Int) := by omega
  have i2 : (x : Int) < (n : Int) := by omega
  have i3 : (0 : Int) ≤ (x2 : Int) := by omega
  have i4 : (x2 : Int) < (n : Int) := by omega
  clear hb hbl hA hcall hg'
  go_enter Tryd.func103, Tryd.ntmps103
  go_wp2_with fail
  go_region_held3 (fun w' => w'.cell? ⟨ba, 0, none⟩ = some (.int .i64 a.n) ∧ w'.cell? ⟨ba, 1, none⟩ = some (.string (bs a.set)) ∧ w'.cell? ⟨ba, 2, none⟩ = some (.string (bs a.rel)) ∧ w'.cell? ⟨bl, 0, none⟩ = some (.slice (some ⟨g, 0, none⟩) n cap) ∧ w'.cell? ⟨g, x, none⟩ = some (.int .i64 y) ∧ w'.cell? ⟨g, x2, none⟩ = some (.int .i64 y2)) (first | go_keep | exact ⟨m0, m1, m2, m3, m4, m5⟩) (first | (go_at_call 54; (with_reducible refine (Hcall.out _).mono ?_); rintro e w2 ⟨rfl, hz⟩; have m0 := (hz.cell (World.block_lt_of_cell? _ _ k0)).trans k0; have m1 := (hz.cell (World.block_lt_of_cell? _ _ k1)).trans k1; have m2 := (hz.cell (World.block_lt_of_cell? _ _ k2)).trans k2; have m3 := (hz.cell (World.block_lt_of_cell? _ _ l0)).trans l0; have m4 := (hz.cell (World.block_lt_of_cell? _ _ c0)).trans c0; have m5 := (hz.cell (World.block_lt_of_cell? _ _ c1)).trans c1; have Hz := Lib.hid hz; clear hz))
  all_goals
    go_wp2_with fail
    go_ret
    exact ⟨rfl, (Below.refl w.heap.size w).drew.trans (Hz.out.mono (Nat.le_refl _))⟩

theorem enter_part1 : ∀ (args : Array Value) (w : World), (callFunc 102 args).run Tryd.prog w = .ok (.enter 102 args) w := enter_of Tryd.func102 (by kernel_rfl) (by kernel_rfl)
theorem enter_part2 : ∀ (args : Array Value) (w : World), (callFunc 103 args).run Tryd.prog w = .ok (.enter 103 args) w := enter_of Tryd.func103 (by kernel_rfl) (by kernel_rfl)

set_option maxHeartbeats 1000000 in
theorem partOf_calls (a : St) (ha : a.ok) (ns : List Nat) (hns : ∀ x ∈ ns, x < a.n) (hl : ns.length ≤ 8) (A : Option Addr) (cap : Nat) (w : World) (hA : LRow w A (natsI ns)) :
    Calls Tryd.prog 84 #[stA a, .slice A ns.length cap] w fun e w' => e = .returned (stA (a.part ns)) ∧ Below w.heap.size w w' := by
  have HA := Lib.hid hA
  clear hA
  have hmk : ∀ W, Below (w.heap.size + 2) ((w.alloc (.cells #[.int .i64 a.n, .string (bs a.set), .string (bs a.rel)] 24)).alloc (.cells #[.slice A ns.length cap] 25)) W → Calls Tryd.prog 101 #[.int .i64 ns.length, .func (.func 102) #[] #[.pointer (some ⟨w.heap.size, 0, none⟩), .pointer (some ⟨w.heap.size + 1, 0, none⟩)], .func (.func 103) #[] #[.pointer (some ⟨w.heap.size, 0, none⟩), .pointer (some ⟨w.heap.size + 1, 0, none⟩)]] W fun e w' => e = .returned (stA (a.part ns)) ∧ Below W.heap.size W w' := fun W hW => by
    have x0 := ((Bx.new w 24 #[.int .i64 a.n, .string (bs a.set), .string (bs a.rel)]).alloc (.cells #[.slice A ns.length cap] 25)).below hW (by omega)
    have x1 := (bx_two w (.cells #[.int .i64 a.n, .string (bs a.set), .string (bs a.rel)] 24) #[.slice A ns.length cap] (t := 25)).below hW (by omega)
    have hA1 : LRow W A (natsI ns) := ((HA.out.alloc _).alloc _).call (hW.mono (by simp))
    exact makeStructure_calls ns.length hl (fun x => a.inS (ns.getD x 0)) (fun x y => a.inR (ns.getD x 0) (ns.getD y 0)) 102 103 #[] #[.pointer (some ⟨w.heap.size, 0, none⟩), .pointer (some ⟨w.heap.size + 1, 0, none⟩)] #[] #[.pointer (some ⟨w.heap.size, 0, none⟩), .pointer (some ⟨w.heap.size + 1, 0, none⟩)] W enter_part1 enter_part2
      (fun x V hx hV => part1_calls a ha ns hns hl A cap x hx _ _ V (x0.call hV) (x1.call hV) (hA1.call hV))
      (fun x y V hx hy hV => part2_calls a ha ns hns hl A cap x y hx hy _ _ V (x0.call hV) (x1.call hV) (hA1.call hV))
  have Hmk := Lib.hid hmk
  clear hmk
  have hn8 : (ns.length : Int) ≤ 8 := by omega
  go_enter Tryd.func84, Tryd.ntmps84
  go_wp2_with fail
  refine (Hmk.out _ ((Below.refl _ _).alloc (by simp) _)).mono ?_
  rintro e w2 ⟨rfl, hz⟩
  have xr : Bx w2 (w.heap.size + 2) 24 #[.int .i64 0, .string (bs []), .string (bs [])] := by
    have h := Bx.new ((w.alloc (.cells #[.int .i64 a.n, .string (bs a.set), .string (bs a.rel)] 24)).alloc (.cells #[.slice A ns.length cap] 25)) 24 #[.int .i64 0, .string (bs []), .string (bs [])]
    rw [World.size_alloc, World.size_alloc] at h
    exact h.call hz
  have HB := Lib.hid ((((((Below.refl w.heap.size w).alloc (Nat.le_refl _) (.cells #[.int .i64 a.n, .string (bs a.set), .string (bs a.rel)] 24)).alloc (by simp) (.cells #[.slice A ns.length cap] 25)).alloc (by simp; omega) (.cells #[.int .i64 0, .string (bs []), .string (bs [])] 24)).trans (hz.mono (by simp; omega))))
  obtain ⟨d0, d1, d2⟩ := box_load xr
  have f0 := xr.free 0
  have f1 := xr.free 1
  have f2 := xr.free 2
  have Xr := Lib.hid xr
  clear hz xr
  go_wp2_with fail
  have y1 := ((Xr.out.set 0 (.int .i64 (a.part ns).n)).set 1 (.string (bs (a.part ns).set))).set 2 (.string (bs (a.part ns).rel))
  obtain ⟨q0, q1, q2⟩ := box_load (a := .int .i64 (a.part ns).n) (b := .string (bs (a.part ns).set)) (c := .string (bs (a.part ns).rel)) y1
  refine bodyPost_ret (v := stA (a.part ns)) ?_ rfl ⟨rfl, ?_⟩
  · simp [results, Tryd.results84, go_sem, q0, q1, q2]
  · exact ((HB.out.setCell (by simp; omega) _).setCell (by simp; omega) _).setCell (by simp; omega) _

end Go.Proofs.YtgiaebeoldigbaaDoor

namespace Go.Proofs.YtgiaebeoldigbaaDoor
open Go.RowKit
open Pl
set_option linter.unusedSimpArgs false
set_option linter.unusedVariables false
attribute [local go_sem ↓] Go.wp_at_zero Go.wp_at_succ

/-- two boxes behind a call -/
def Two (w W : World) (ca cb : Array Value) : Prop := Bx W w.heap.size 24 ca ∧ Bx W (w.heap.size + 1) 24 cb
theorem Two.call {w W W' : World} {ca cb : Array Value} (h : Two w W ca cb) (hb : Below W.heap.size W W') : Two w W' ca cb := ⟨h.1.call hb, h.2.call hb⟩
theorem Two.drew {w W : World} {ca cb : Array Value} (h : Two w W ca cb) : Two w W.drew ca cb := h
theorem Two.six {w W : World} {a b c d e f : Value} (h : Two w W #[a, b, c] #[d, e, f]) : W.cell? ⟨w.heap.size, 0, none⟩ = some a ∧ W.cell? ⟨w.heap.size, 1, none⟩ = some b ∧ W.cell? ⟨w.heap.size, 2, none⟩ = some c ∧ W.cell? ⟨w.heap.size + 1, 0, none⟩ = some d ∧ W.cell? ⟨w.heap.size + 1, 1, none⟩ = some e ∧ W.cell? ⟨w.heap.size + 1, 2, none⟩ = some f :=
  ⟨h.1.cell 0, h.1.cell 1, h.1.cell 2, h.2.cell 0, h.2.cell 1, h.2.cell 2⟩

/-- what the k-th element before says -/
def fitAt (a b : St) (o : List Nat) (x k : Nat) : Bool := a.inR x (o.getD k 0) == b.inR o.length k && a.inR (o.getD k 0) x == b.inR k o.length

theorem fitsB_eq (a b : St) (o : List Nat) (x : Nat) : fitsB a b o x = (a.inS x == b.inS o.length && a.inR x x == b.inR o.length o.length && (List.range o.length).all (fitAt a b o x)) := rfl

theorem all_upto {p : Nat → Bool} {n : Nat} (h : ∀ k, k < n → p k = true) : (List.range n).all p = true := List.all_eq_true.2 fun k hk => h k (List.mem_range.1 hk)
theorem all_not {p : Nat → Bool} {n k : Nat} (hk : k < n) (h : p k = false) : (List.range n).all p = false := by
  rw [Bool.eq_false_iff]; intro e
  have := List.all_eq_true.1 e k (List.mem_range.2 hk)
  rw [h] at this; cases this

end Go.Proofs.YtgiaebeoldigbaaDoor

namespace Go.Proofs.YtgiaebeoldigbaaDoor
open Go.RowKit
open Pl
set_option linter.unusedSimpArgs false
set_option linter.unusedVariables false

/-- what lies from a block on is as it was -/
structure Kp (B : Nat) (W W' : World) : Prop where
  size : W.heap.size ≤ W'.heap.size
  block : ∀ k, B ≤ k → k < W.heap.size → W'.heap[k]? = W.heap[k]?

theorem Kp.of_below {B : Nat} {W W' : World} (h : Below W.heap.size W W') : Kp B W W' := ⟨h.size, fun k _ hk => h.block k hk⟩
theorem Bx.kp {w w' : World} {g B : Nat} {t : TypeId} {cs : Array Value} (h : Bx w g t cs) (hk : Kp B w w') (hg : B ≤ g) : Bx w' g t cs := (hk.block g hg h.lt).trans h
theorem Bx.grown {w w' : World} {g : Nat} {t : TypeId} {cs : Array Value} {row : Option Nat} (h : Bx w g t cs) (hg : w.grownBy w' row) (hne : some g ≠ row) : Bx w' g t cs := (hg.block g h.lt hne).trans h
theorem own_kp {W W' : World} {B base n : Nat} {e : TypeId} {v : Value} {xs : List Value} (h : W.ownsRow base e 1 v n xs) (hk : Kp B W W') (hB : B ≤ base) : W'.ownsRow base e 1 v n xs := by
  obtain ⟨h1, h2⟩ := h
  refine ⟨h1, ?_⟩
  rcases h2 with h2 | ⟨g, cap, cur, hv, hg, hh, r⟩
  · exact .inl h2
  · exact .inr ⟨g, cap, cur, hv, hg, (hk.block g (by omega) (Array.getElem?_eq_some_iff.1 hh).1).trans hh, r⟩
theorem own_far {W : World} {base n : Nat} {e : TypeId} {v : Value} {xs : List Value} (h : W.ownsRow base e 1 v n xs) {p : Addr} (hp : ∀ g, v.ownBlock = some g → g ≠ p.block) (u : Value) : (W.setCell p u).ownsRow base e 1 v n xs := by
  obtain ⟨h1, h2⟩ := h
  refine ⟨h1, ?_⟩
  rcases h2 with h2 | ⟨g, cap, cur, hv, hg, hh, r⟩
  · exact .inl h2
  · exact .inr ⟨g, cap, cur, hv, hg, (Below.heap_setCell W p u g (hp g (by rw [hv]; rfl))).trans hh, r⟩
theorem own_open {W : World} {base : Nat} {v : Value} {o : List Nat} (h : W.ownsRow base 3 1 v o.length (intsV (natsI o))) : ∃ A cap, v = .slice A o.length cap ∧ o.length ≤ cap ∧ LRow W A (natsI o) := by
  have h0 := h
  rcases h.2 with ⟨rfl, hn⟩ | ⟨g, cap, cur, rfl, _, _, hc, _⟩
  · exact ⟨none, 0, by rw [hn], by omega, fun hl => by rw [natsI_len] at hl; omega⟩
  · exact ⟨some ⟨g, 0, none⟩, cap, rfl, hc, LRow_of h0⟩
theorem own_back {W : World} {base : Nat} {v : Value} {o : List Nat} {x : Nat} (h : W.ownsRow base 3 1 v (o ++ [x]).length (intsV (natsI (o ++ [x])))) :
    ∃ g cap, v = .slice (some ⟨g, 0, none⟩) (o.length + 1) cap ∧ o.length + 1 ≤ cap ∧ W.ownsRow base 3 1 (.slice (some ⟨g, 0, none⟩) o.length cap) o.length (intsV (natsI o)) := by
  obtain ⟨h1, ⟨_, h0⟩ | ⟨g, cap, cur, hv, hg, hh, hn, hc, hs, ht⟩⟩ := h
  · simp at h0
  · rw [List.length_append, List.length_singleton] at hn hv
    refine ⟨g, cap, hv, hn, by simp [intsV, natsI], .inr ⟨g, cap, cur, rfl, hg, hh, by omega, hc, hs, ?_⟩⟩
    have ht2 := congrArg (List.take o.length) ht
    simp only [List.take_take, List.length_append, List.length_singleton, Nat.mul_one, intsV, natsI, List.map_append] at ht2 ⊢
    rw [Nat.min_eq_left (by omega)] at ht2
    rw [ht2, List.take_left' (by simp)]

theorem own_form {w : World} {base n : Nat} {e : TypeId} {v : Value} {xs : List Value} (h : w.ownsRow base e 1 v (n + 1) xs) : ∃ g cap, v = .slice (some ⟨g, 0, none⟩) (n + 1) cap := by
  obtain ⟨_, ⟨_, h0⟩ | ⟨g, cap, _, hv, _⟩⟩ := h
  · cases h0
  · exact ⟨g, cap, hv⟩

/-- the order so far -/
def eRow (W : World) (B : Nat) (o : List Nat) : Prop :=
  ∃ v, Bx W (B + 4) 25 #[v] ∧ W.ownsRow (B + 3) 3 1 v o.length (intsV (natsI o)) ∧ ∀ k, v.ownBlock = some k → k ≠ B + 4 ∧ k ≠ B + 5

theorem eRow.kp {W W' : World} {B : Nat} {o : List Nat} (h : eRow W B o) (hk : Kp B W W') : eRow W' B o := by
  obtain ⟨v, h1, h2, h3⟩ := h
  exact ⟨v, h1.kp hk (by omega), own_kp h2 hk (by omega), h3⟩
/-- all of them, or the first alone -/
def told (c : Bool) (L : List (List Nat)) : List (List Nat) := if c then L else L.take 1
/-- the orders whose next element is below a number -/
def upTo (a b : St) (m : Nat) (o : List Nat) (k : Nat) : List (List Nat) := (List.range k).flatMap fun x => if nextB a b o x then shapes a b m (o ++ [x]) else []
theorem upTo_zero (a b : St) (m : Nat) (o : List Nat) : upTo a b m o 0 = [] := rfl
theorem upTo_succ (a b : St) (m : Nat) (o : List Nat) (k : Nat) : upTo a b m o (k + 1) = upTo a b m o k ++ (if nextB a b o k then shapes a b m (o ++ [k]) else []) := by
  unfold upTo; rw [List.range_succ, List.flatMap_append]; simp
theorem shapes_upTo (a b : St) (m : Nat) (o : List Nat) : shapes a b (m + 1) o = upTo a b m o a.n := rfl
theorem upTo_more (a b : St) (m : Nat) (o : List Nat) (k : Nat) : ∀ d, ∃ R, upTo a b m o (k + d) = upTo a b m o k ++ R
  | 0 => ⟨[], by simp⟩
  | d + 1 => by
    obtain ⟨R, h⟩ := upTo_more a b m o k d
    exact ⟨R ++ _, by rw [← Nat.add_assoc, upTo_succ, h, List.append_assoc]⟩
/-- where the first is told, the others are not -/
theorem told_stop {a b : St} {m k : Nat} {o : List Nat} (hk : k < a.n) (hn : nextB a b o k = true) (h0 : upTo a b m o k = []) (hs : (shapes a b m (o ++ [k])).isEmpty = false) :
    (shapes a b (m + 1) o).isEmpty = false ∧ told false (shapes a b (m + 1) o) = told false (shapes a b m (o ++ [k])) := by
  obtain ⟨R, h⟩ := upTo_more a b m o (k + 1) (a.n - (k + 1))
  rw [show k + 1 + (a.n - (k + 1)) = a.n by omega, upTo_succ, h0, hn] at h
  rw [shapes_upTo, h]
  generalize shapes a b m (o ++ [k]) = L at *
  cases L with
  | nil => cases hs
  | cons x L => simp [told]

end Go.Proofs.YtgiaebeoldigbaaDoor

namespace Go.Proofs.YtgiaebeoldigbaaDoor
open Go.RowKit
open Pl
set_option linter.unusedSimpArgs false
set_option linter.unusedVariables false

theorem LRow.news {w : World} {ga : Nat} {zs : List Int} (h : LRow w (some ⟨ga, 0, none⟩) zs) : ∀ j u, (intsV zs)[j]? = some u → w.cell? ((⟨ga, 0, none⟩ : Addr).add j) = some u := by
  intro j u hj
  have hl : j < zs.length := by
    have := (List.getElem?_eq_some_iff.1 hj).1
    simpa [intsV] using this
  obtain ⟨g, hg, hc⟩ := h (by omega)
  injection hg with hg
  injection hg with hg _
  subst hg
  have h2 := hc j hl
  simp only [intsV, List.getElem?_map, List.getElem?_eq_getElem hl, Option.map_some, Option.some.injEq] at hj
  subst hj
  have e : ((⟨ga, 0, none⟩ : Addr).add j) = ⟨ga, j, none⟩ := by
    rcases Nat.eq_zero_or_pos j with h0 | h0
    · subst h0; rfl
    · simp [Addr.add]; omega
  rw [e]
  simpa [List.getD, hl] using h2

theorem intsV_len (zs : List Int) : (intsV zs).length = zs.length := by simp [intsV]

/-- the empty list that the call makes -/
theorem own_zero (w : World) : (w.alloc (.cells #[] 3)).ownsRow w.heap.size 3 1 (.slice (some ⟨w.heap.size, 0, none⟩) 0 0) 0 [] :=
  ⟨rfl, .inr ⟨_, 0, #[], rfl, Nat.le_refl _, Bx.new w _ _, Nat.le_refl _, Nat.zero_le _, rfl, rfl⟩⟩

/-- behind a copy of a list -/
theorem app_one {w w1 : World} {v1 : Value} {n : Nat} {xs : List Value} (hown : w1.ownsRow w.heap.size 3 1 v1 (0 + n) ([] ++ xs)) (hg : (w.alloc (.cells #[] 3)).grownBy w1 (Value.ownBlock (.slice (some ⟨w.heap.size, 0, none⟩) 0 0))) :
    w1.ownsRow w.heap.size 3 1 v1 n xs ∧ Below w.heap.size w w1 := by
  refine ⟨by simpa using hown, ((Below.refl w.heap.size w).alloc (Nat.le_refl _) _).grown hg (by simp) (fun j hj => ?_)⟩
  simp [Value.ownBlock] at hj
  omega

/-- behind one number more -/
theorem app_two {w w1 w2 : World} {v1 v2 : Value} {o : List Nat} {x n : Nat} (hb : Below w.heap.size w w1) (hown1 : w1.ownsRow w.heap.size 3 1 v1 n (intsV (natsI o)))
    (hown : w2.ownsRow w.heap.size 3 1 v2 (n + 1) (intsV (natsI o) ++ [.int .i64 (x : Nat)])) (hg : (w1.alloc (.cells #[.int .i64 (x : Nat)] 3)).grownBy w2 v1.ownBlock) :
    ∃ g cap, v2 = .slice (some ⟨g, 0, none⟩) (n + 1) cap ∧ w.heap.size ≤ g ∧ LRow w2 (some ⟨g, 0, none⟩) (natsI (o ++ [x])) ∧ Below w.heap.size w w2 := by
  obtain ⟨g, cap, rfl⟩ := own_form hown
  have h2 : w2.ownsRow w.heap.size 3 1 (.slice (some ⟨g, 0, none⟩) (n + 1) cap) (n + 1) (intsV (natsI (o ++ [x]))) := by
    rw [show intsV (natsI (o ++ [x])) = intsV (natsI o) ++ [.int .i64 (x : Nat)] by simp [intsV, natsI]]
    exact hown
  refine ⟨g, cap, rfl, (hown.lt g rfl).1, LRow_of h2, (hb.alloc hb.size _).grown hg (by have := hb.size; simp; omega) (fun j hj => (hown1.lt j hj).1)⟩

theorem range_snoc (n : Nat) : List.range (n + 1) = List.range n ++ [n] := List.range_succ

/-- how many orders there are at most -/
theorem shapes_le {a b : St} (h : a.n ≤ 8) : ∀ (m : Nat) (o : List Nat), (shapes a b m o).length ≤ 8 ^ m := by
  have key : ∀ (m : Nat), (∀ o, (shapes a b m o).length ≤ 8 ^ m) → ∀ o k, (upTo a b m o k).length ≤ k * 8 ^ m := by
    intro m ih o k
    induction k with
    | zero => simp [upTo_zero]
    | succ k ihk =>
      rw [upTo_succ, List.length_append, Nat.succ_mul]
      have : (if nextB a b o k then shapes a b m (o ++ [k]) else []).length ≤ 8 ^ m := by
        split
        · exact ih _
        · simp
      omega
  intro m
  induction m with
  | zero => intro o; simp [shapes]
  | succ m ih =>
    intro o
    rw [shapes_upTo, Nat.pow_succ, Nat.mul_comm]
    exact Nat.le_trans (key m ih o a.n) (Nat.mul_le_mul_right _ h)
theorem upTo_le {a b : St} (h : a.n ≤ 8) (m : Nat) (o : List Nat) (k : Nat) : (upTo a b m o k).length ≤ k * 8 ^ m := by
  induction k with
  | zero => simp [upTo_zero]
  | succ k ihk =>
    rw [upTo_succ, List.length_append, Nat.succ_mul]
    have : (if nextB a b o k then shapes a b m (o ++ [k]) else []).length ≤ 8 ^ m := by
      split
      · exact shapes_le h _ _
      · simp
    omega
theorem pow8 {m : Nat} (h : m ≤ 8) : 8 ^ m ≤ 16777216 := Nat.pow_le_pow_right (by decide) h

end Go.Proofs.YtgiaebeoldigbaaDoor

namespace Go.Proofs.YtgiaebeoldigbaaDoor
open Go.RowKit
open Pl
set_option linter.unusedSimpArgs false
set_option linter.unusedVariables false

attribute [local go_sem ↓] Go.wp_at_zero Go.wp_at_succ

/-- a row of one's own behind a call that draws -/
theorem own_dw {W W' : World} {base rb n : Nat} {e : TypeId} {v : Value} {xs : List Value} (h : W.ownsRow base e 1 v n xs) (hg : W.grownBy W' (some rb)) (hrb : rb < base) : W'.ownsRow base e 1 v n xs := by
  obtain ⟨h1, h2⟩ := h
  refine ⟨h1, h2.imp id fun ⟨g, c, cur, hv, hb, hh, hr⟩ => ⟨g, c, cur, hv, hb, ?_, hr⟩⟩
  exact (hg.block g (Array.getElem?_eq_some_iff.1 hh).1 (by simp; omega)).trans hh
theorem own_cap {W : World} {base n g cp : Nat} {e : TypeId} {xs : List Value} (h : W.ownsRow base e 1 (.slice (some ⟨g, 0, none⟩) n cp) n xs) : n ≤ cp ∧ cp ≤ maxLen ∧ base ≤ g ∧ g < W.heap.size := by
  obtain ⟨_, ⟨h0, _⟩ | ⟨g', c, cur, hv, hb, hh, hn, hm, _⟩⟩ := h
  · cases h0
  · injection hv with h1 h2 h3
    injection h1 with h1
    injection h1 with h1
    subst h1; subst h3
    exact ⟨hn, hm, hb, (Array.getElem?_eq_some_iff.1 hh).1⟩
/-- the rest of a list, from an index on -/
theorem rest_cells {w : World} {g d : Nat} {L : List Nat} (h : LRow w (some ⟨g, 0, none⟩) (natsI L)) : ∀ j u, (intsV (natsI (L.drop d)))[j]? = some u → w.cell? ((⟨g, d, none⟩ : Addr).add j) = some u := by
  intro j u hj
  have hl : d + j < L.length := by
    have := (List.getElem?_eq_some_iff.1 hj).1
    simp [intsV, natsI] at this
    omega
  have h2 := LRow.news h (d + j) u (by
    rw [← hj]
    simp [intsV, natsI])
  have e1 : ((⟨g, d, none⟩ : Addr).add j) = ⟨g, d + j, none⟩ := by
    rcases Nat.eq_zero_or_pos j with h0 | h0
    · subst h0; rfl
    · simp [Addr.add]; omega
  have e2 : ((⟨g, 0, none⟩ : Addr).add (d + j)) = ⟨g, d + j, none⟩ := by
    rcases Nat.eq_zero_or_pos (d + j) with h0 | h0
    · rw [h0]; rfl
    · simp [Addr.add]; omega
  rw [e1, ← e2]
  exact h2

theorem own_low {w : World} {base base' n : Nat} {e : TypeId} {v : Value} {xs : List Value} (h : w.ownsRow base e 1 v n xs) (hb : base' ≤ base) : w.ownsRow base' e 1 v n xs :=
  ⟨h.1, h.2.imp (fun h => h) fun ⟨g, c, cur, h1, h2, h3⟩ => ⟨g, c, cur, h1, by omega, h3⟩⟩
theorem own_shape {w : World} {base n : Nat} {e : TypeId} {v : Value} {xs : List Value} (h : w.ownsRow base e 1 v n xs) (hn : 0 < n) : ∃ g cap, v = .slice (some ⟨g, 0, none⟩) n cap := by
  obtain ⟨_, ⟨_, h0⟩ | ⟨g, cap, _, hv, _⟩⟩ := h
  · omega
  · exact ⟨g, cap, hv⟩
theorem own_zero2 (w : World) (o : Obj) : ((w.alloc o).alloc (.cells #[] 3)).ownsRow w.heap.size 3 1 (.slice (some ⟨w.heap.size + 1, 0, none⟩) 0 0) 0 [] := by
  have h := own_zero (w.alloc o)
  rw [World.size_alloc] at h
  exact own_low h (Nat.le_succ _)
theorem take_row {w : World} {A : Option Addr} {L : List Nat} {d : Nat} (h : LRow w A (natsI L)) : LRow w A (natsI (L.take d)) := by
  have := h.take d
  unfold natsI at *
  rwa [List.map_take]
theorem next_order {W : World} {b b2 d k g cp : Nat} {L : List Nat} (hd : d ≤ L.length) (hL : L.length = k) (hlt : ∀ x ∈ L, x < k) (hnd : L.Nodup) (hb : b ≤ b2)
    (h : W.ownsRow b2 3 1 (.slice (some ⟨g, 0, none⟩) (d + 1 + (L.length - d)) cp) (d + 1 + (L.length - d)) ((intsV (natsI (L.take d))) ++ [.int .i64 (k : Nat)] ++ (intsV (natsI (L.drop d))))) :
    W.ownsRow b 3 1 (.slice (some ⟨g, 0, none⟩) (L.take d ++ k :: L.drop d).length cp) (L.take d ++ k :: L.drop d).length (intsV (natsI (L.take d ++ k :: L.drop d))) ∧ (L.take d ++ k :: L.drop d).length = k + 1 ∧ (∀ x ∈ L.take d ++ k :: L.drop d, x < k + 1) ∧ (L.take d ++ k :: L.drop d).Nodup := by
  have hn : (L.take d ++ k :: L.drop d).length = d + 1 + (L.length - d) := by simp; omega
  have hp : (L.take d ++ k :: L.drop d).Perm (k :: L) := by
    have := List.perm_middle (a := k) (l₁ := L.take d) (l₂ := L.drop d)
    rwa [List.take_append_drop] at this
  refine ⟨?_, by rw [hn]; omega, fun x hx => ?_, ?_⟩
  · rw [hn]
    have e : intsV (natsI (L.take d ++ k :: L.drop d)) = (intsV (natsI (L.take d))) ++ [.int .i64 (k : Nat)] ++ (intsV (natsI (L.drop d))) := by simp [intsV, natsI]
    rw [e]
    exact own_low h hb
  · rcases List.mem_cons.1 (hp.mem_iff.1 hx) with rfl | h2
    · omega
    · have := hlt x h2; omega
  · rw [hp.nodup_iff]
    exact List.nodup_cons.2 ⟨fun h2 => by have := hlt k h2; omega, hnd⟩

theorem next_order0 {W : World} {b b2 d k g cp : Nat} {L : List Nat} (hd : L.length = d) (hL : L.length = k) (hlt : ∀ x ∈ L, x < k) (hnd : L.Nodup) (hb : b ≤ b2)
    (h : W.ownsRow b2 3 1 (.slice (some ⟨g, 0, none⟩) (d + 1 + 0) cp) (d + 1 + 0) ((intsV (natsI (L.take d))) ++ [.int .i64 (k : Nat)] ++ [])) :
    W.ownsRow b 3 1 (.slice (some ⟨g, 0, none⟩) (L.take d ++ k :: L.drop d).length cp) (L.take d ++ k :: L.drop d).length (intsV (natsI (L.take d ++ k :: L.drop d))) ∧ (L.take d ++ k :: L.drop d).length = k + 1 ∧ (∀ x ∈ L.take d ++ k :: L.drop d, x < k + 1) ∧ (L.take d ++ k :: L.drop d).Nodup := by
  refine next_order (by omega) hL hlt hnd hb ?_
  have e : L.length - d = 0 := by omega
  have e2 : (intsV (natsI (L.drop d))) = [] := by rw [List.drop_of_length_le (by omega)]; rfl
  rw [e, e2]
  exact h

/-- an order that is drawn -/
def ShufS (w : World) (rb : Nat) (A : Option Addr) (n cap p m : Nat) (e : Ending) (w' : World) : Prop := ∃ (L : List Nat) (g cp : Nat), e = .returned (.slice (some ⟨g, 0, none⟩) L.length cp) ∧ L.length = m ∧ (∀ x ∈ L, x < m) ∧ L.Nodup ∧
  w'.ownsRow w.heap.size 3 1 (.slice (some ⟨g, 0, none⟩) L.length cp) L.length (intsV (natsI L)) ∧ Rd w' rb A n cap (p + m)

end Go.Proofs.YtgiaebeoldigbaaDoor

namespace Go.Proofs.YtgiaebeoldigbaaDoor
open Go.RowKit
open Pl
set_option linter.unusedSimpArgs false
set_option linter.unusedVariables false

attribute [local go_sem ↓] Go.wp_at_zero Go.wp_at_succ

/-- the reader where a row of another block grows -/
theorem Rd.app {V V' : World} {rb n cap p : Nat} {A : Option Addr} {row : Option Nat} (h : Rd V rb A n cap p) (hg : V.grownBy V' row) (hr : ∀ j, row = some j → rb < j) : Rd V' rb A n cap p := by
  have hlt := h.box.lt
  refine ⟨h.box.grown' hg (fun e => by have := hr rb e.symm; omega), ?_, h.small, h.sep⟩
  intro h0
  obtain ⟨x, rfl, hc⟩ := h.row h0
  have hx := h.sep h0 x rfl
  refine ⟨x, rfl, fun i hi => ?_⟩
  obtain ⟨b, hb, hcell⟩ := hc i hi
  refine ⟨b, hb, ?_⟩
  rw [← hcell]
  have hbl : (x.add i).block = x.block := by unfold Addr.add; split <;> rfl
  exact World.cell?_of_block (by rw [hbl]; exact hg.block x.block (by omega) (fun e => by have := hr x.block e.symm; omega))
theorem Fr.app {w V V' : World} {rb n cap p : Nat} {A : Option Addr} {row : Option Nat} (h : Fr w rb A n cap p V) (hg : V.grownBy V' row) (hr : ∀ j, row = some j → rb < j) : Fr w rb A n cap p V' :=
  ⟨h.rd.app hg hr, h.bel.grown hg h.bel.size (fun j hj => by have := hr j hj; have := h.rge; omega), h.rge⟩
/-- the first of a row -/
theorem own_first {W : World} {base n n' g cp : Nat} {e : TypeId} {xs : List Value} (h : W.ownsRow base e 1 (.slice (some ⟨g, 0, none⟩) n cp) n xs) (hn : n' ≤ n) : W.ownsRow base e 1 (.slice (some ⟨g, 0, none⟩) n' cp) n' (xs.take n') := by
  obtain ⟨h1, ⟨h0, _⟩ | ⟨g', c, cur, hv, hb, hh, hle, hm, hs, hx⟩⟩ := h
  · cases h0
  · refine ⟨by rw [List.length_take, h1]; omega, .inr ⟨g', c, cur, ?_, hb, hh, ?_, hm, hs, ?_⟩⟩
    · injection hv with e1 e2 e3
      rw [e1, e3]
    · omega
    · rw [← hx, List.take_take]
      congr 1
      omega
theorem intsV_take (zs : List Int) (k : Nat) : (intsV zs).take k = intsV (zs.take k) := by unfold intsV; rw [List.map_take]

/-- a structure and some numbers that are drawn -/
def StL (e : Ending) (w' : World) : Prop := ∃ (i : Int) (s r : ByteArray) (zs : List Int) (A : Option Addr) (c : Nat), e = .returned (.tuple #[stV i s r, .slice A zs.length c]) ∧ s.size ≤ 100 ∧ r.size ≤ 100 ∧ zs.length ≤ 10 ∧ zs.length ≤ c ∧ LRow w' A zs

end Go.Proofs.YtgiaebeoldigbaaDoor

namespace Go.Proofs.YtgiaebeoldigbaaDoor
namespace Pl

/-- the quantifiers: all, some, at least two, three, four -/
inductive Qn where
  | A | S | c2 | c3 | c4

/-- formulas -/
inductive Fm where
  | tru | fls
  | pr (v : Fin 4) | eq (v w : Fin 4) | rel (v w : Fin 4)
  | neg (p : Fm) | con (p q : Fm) | dis (p q : Fm) | qu (k : Qn) (v : Fin 4) (p : Fm)

def Qn.b : Qn → UInt8
  | .A => 65 | .S => 83 | .c2 => 50 | .c3 => 51 | .c4 => 52

/-- how often a quantifier counts -/
def Qn.n : Qn → Nat
  | .A => 1 | .S => 1 | .c2 => 2 | .c3 => 3 | .c4 => 4

/-- the byte of a variable -/
def vb (v : Fin 4) : UInt8 := UInt8.ofNat (97 + v.val)

/-- the operator -/
def Fm.op : Fm → UInt8
  | .tru => 116 | .fls => 102 | .pr _ => 80 | .eq _ _ => 61 | .rel _ _ => 69 | .neg _ => 33 | .con _ _ => 38 | .dis _ _ => 124 | .qu k _ _ => k.b

def Fm.vars : Fm → List (Fin 4)
  | .pr v => [v] | .eq v w => [v, w] | .rel v w => [v, w] | .qu _ v _ => [v] | _ => []

def Fm.parts : Fm → List Fm
  | .neg p => [p] | .con p q => [p, q] | .dis p q => [p, q] | .qu _ _ p => [p] | _ => []

def Fm.text : Fm → List UInt8
  | .tru => [116] | .fls => [102] | .pr v => [80, vb v] | .eq v w => [61, vb v, vb w] | .rel v w => [69, vb v, vb w]
  | .neg p => 33 :: p.text | .con p q => 38 :: (p.text ++ q.text) | .dis p q => 124 :: (p.text ++ q.text) | .qu k v p => k.b :: vb v :: p.text

def Fm.size : Fm → Nat
  | .neg p => p.size + 1 | .con p q => p.size + q.size + 1 | .dis p q => p.size + q.size + 1 | .qu _ _ p => p.size + 1 | _ => 1

theorem Fm.size_parts {f p : Fm} (h : p ∈ f.parts) : p.size < f.size := by
  cases f <;> simp [Fm.parts] at h
  case neg => subst h; simp [Fm.size]
  case con => rcases h with h | h <;> subst h <;> simp [Fm.size] <;> omega
  case dis => rcases h with h | h <;> subst h <;> simp [Fm.size] <;> omega
  case qu => subst h; simp [Fm.size]

theorem Fm.text_eq (f : Fm) : f.text = f.op :: (f.vars.map vb ++ (f.parts.map Fm.text).flatten) := by
  cases f <;> simp [Fm.text, Fm.op, Fm.vars, Fm.parts]

theorem vb_inj {v w : Fin 4} (h : vb v = vb w) : v = w := by
  revert v w; decide

theorem qb_inj {v w : Qn} (h : v.b = w.b) : v = w := by
  cases v <;> cases w <;> first | rfl | (exact absurd h (by decide))

theorem Fm.text_inj : ∀ (f g : Fm) (r s : List UInt8), f.text ++ r = g.text ++ s → f = g ∧ r = s := by
  intro f
  induction f with
  | tru =>
    intro g r s h
    cases g <;> simp [Fm.text] at h ⊢
    · exact h
    · rename_i k _ _; cases k <;> simp [Qn.b] at h
  | fls =>
    intro g r s h
    cases g <;> simp [Fm.text] at h ⊢
    · exact h
    · rename_i k _ _; cases k <;> simp [Qn.b] at h
  | pr v =>
    intro g r s h
    cases g <;> simp [Fm.text] at h ⊢
    · exact ⟨vb_inj h.1, h.2⟩
    · rename_i k _ _; cases k <;> simp [Qn.b] at h
  | eq v w =>
    intro g r s h
    cases g <;> simp [Fm.text] at h ⊢
    · exact ⟨⟨vb_inj h.1, vb_inj h.2.1⟩, h.2.2⟩
    · rename_i k _ _; cases k <;> simp [Qn.b] at h
  | rel v w =>
    intro g r s h
    cases g <;> simp [Fm.text] at h ⊢
    · exact ⟨⟨vb_inj h.1, vb_inj h.2.1⟩, h.2.2⟩
    · rename_i k _ _; cases k <;> simp [Qn.b] at h
  | neg p ih =>
    intro g r s h
    cases g <;> simp [Fm.text] at h ⊢
    · exact ih _ _ _ h
    · rename_i k _ _; cases k <;> simp [Qn.b] at h
  | con p q ihp ihq =>
    intro g r s h
    cases g <;> simp [Fm.text] at h ⊢
    · obtain ⟨h1, h2⟩ := ihp _ _ _ h
      obtain ⟨h3, h4⟩ := ihq _ _ _ h2
      exact ⟨⟨h1, h3⟩, h4⟩
    · rename_i k _ _; cases k <;> simp [Qn.b] at h
  | dis p q ihp ihq =>
    intro g r s h
    cases g <;> simp [Fm.text] at h ⊢
    · obtain ⟨h1, h2⟩ := ihp _ _ _ h
      obtain ⟨h3, h4⟩ := ihq _ _ _ h2
      exact ⟨⟨h1, h3⟩, h4⟩
    · rename_i k _ _; cases k <;> simp [Qn.b] at h
  | qu k v p ih =>
    intro g r s h
    cases g <;> simp [Fm.text] at h ⊢
    case qu =>
      obtain ⟨h1, h2, h3⟩ := h
      obtain ⟨h4, h5⟩ := ih _ _ _ h3
      exact ⟨⟨qb_inj h1, vb_inj h2, h4⟩, h5⟩
    all_goals (cases k <;> simp [Qn.b] at h)

/-- how many variables and how many parts follow an operator -/
def arity (b : UInt8) : Option (Nat × Nat) :=
  if b = 116 then some (0, 0) else if b = 102 then some (0, 0) else if b = 80 then some (1, 0) else if b = 61 then some (2, 0) else if b = 69 then some (2, 0)
  else if b = 33 then some (0, 1) else if b = 38 then some (0, 2) else if b = 124 then some (0, 2)
  else if b = 65 then some (1, 1) else if b = 83 then some (1, 1) else if b = 50 then some (1, 1) else if b = 51 then some (1, 1) else if b = 52 then some (1, 1) else none

theorem arity_op (f : Fm) : arity f.op = some (f.vars.length, f.parts.length) := by
  cases f <;> first | rfl | (rename_i k _ _; cases k <;> rfl)

theorem arity_mk {b : UInt8} {nv np : Nat} (h : arity b = some (nv, np)) (vs : List (Fin 4)) (ps : List Fm) (hv : vs.length = nv) (hp : ps.length = np) :
    ∃ f : Fm, f.op = b ∧ f.vars = vs ∧ f.parts = ps := by
  unfold arity at h
  by_cases hb : b = 116
  · subst hb
    have e : some (0, 0) = some (nv, np) := h
    injection e with e
    injection e with e1 e2
    subst e1 e2
    match vs, hv, ps, hp with
    | [], _, [], _ => exact ⟨.tru, rfl, rfl, rfl⟩
  rw [if_neg hb] at h
  clear hb
  by_cases hb : b = 102
  · subst hb
    have e : some (0, 0) = some (nv, np) := h
    injection e with e
    injection e with e1 e2
    subst e1 e2
    match vs, hv, ps, hp with
    | [], _, [], _ => exact ⟨.fls, rfl, rfl, rfl⟩
  rw [if_neg hb] at h
  clear hb
  by_cases hb : b = 80
  · subst hb
    have e : some (1, 0) = some (nv, np) := h
    injection e with e
    injection e with e1 e2
    subst e1 e2
    match vs, hv, ps, hp with
    | [v], _, [], _ => exact ⟨.pr v, rfl, rfl, rfl⟩
  rw [if_neg hb] at h
  clear hb
  by_cases hb : b = 61
  · subst hb
    have e : some (2, 0) = some (nv, np) := h
    injection e with e
    injection e with e1 e2
    subst e1 e2
    match vs, hv, ps, hp with
    | [v, w], _, [], _ => exact ⟨.eq v w, rfl, rfl, rfl⟩
  rw [if_neg hb] at h
  clear hb
  by_cases hb : b = 69
  · subst hb
    have e : some (2, 0) = some (nv, np) := h
    injection e with e
    injection e with e1 e2
    subst e1 e2
    match vs, hv, ps, hp with
    | [v, w], _, [], _ => exact ⟨.rel v w, rfl, rfl, rfl⟩
  rw [if_neg hb] at h
  clear hb
  by_cases hb : b = 33
  · subst hb
    have e : some (0, 1) = some (nv, np) := h
    injection e with e
    injection e with e1 e2
    subst e1 e2
    match vs, hv, ps, hp with
    | [], _, [p], _ => exact ⟨.neg p, rfl, rfl, rfl⟩
  rw [if_neg hb] at h
  clear hb
  by_cases hb : b = 38
  · subst hb
    have e : some (0, 2) = some (nv, np) := h
    injection e with e
    injection e with e1 e2
    subst e1 e2
    match vs, hv, ps, hp with
    | [], _, [p, q], _ => exact ⟨.con p q, rfl, rfl, rfl⟩
  rw [if_neg hb] at h
  clear hb
  by_cases hb : b = 124
  · subst hb
    have e : some (0, 2) = some (nv, np) := h
    injection e with e
    injection e with e1 e2
    subst e1 e2
    match vs, hv, ps, hp with
    | [], _, [p, q], _ => exact ⟨.dis p q, rfl, rfl, rfl⟩
  rw [if_neg hb] at h
  clear hb
  by_cases hb : b = 65
  · subst hb
    have e : some (1, 1) = some (nv, np) := h
    injection e with e
    injection e with e1 e2
    subst e1 e2
    match vs, hv, ps, hp with
    | [v], _, [p], _ => exact ⟨.qu .A v p, rfl, rfl, rfl⟩
  rw [if_neg hb] at h
  clear hb
  by_cases hb : b = 83
  · subst hb
    have e : some (1, 1) = some (nv, np) := h
    injection e with e
    injection e with e1 e2
    subst e1 e2
    match vs, hv, ps, hp with
    | [v], _, [p], _ => exact ⟨.qu .S v p, rfl, rfl, rfl⟩
  rw [if_neg hb] at h
  clear hb
  by_cases hb : b = 50
  · subst hb
    have e : some (1, 1) = some (nv, np) := h
    injection e with e
    injection e with e1 e2
    subst e1 e2
    match vs, hv, ps, hp with
    | [v], _, [p], _ => exact ⟨.qu .c2 v p, rfl, rfl, rfl⟩
  rw [if_neg hb] at h
  clear hb
  by_cases hb : b = 51
  · subst hb
    have e : some (1, 1) = some (nv, np) := h
    injection e with e
    injection e with e1 e2
    subst e1 e2
    match vs, hv, ps, hp with
    | [v], _, [p], _ => exact ⟨.qu .c3 v p, rfl, rfl, rfl⟩
  rw [if_neg hb] at h
  clear hb
  by_cases hb : b = 52
  · subst hb
    have e : some (1, 1) = some (nv, np) := h
    injection e with e
    injection e with e1 e2
    subst e1 e2
    match vs, hv, ps, hp with
    | [v], _, [p], _ => exact ⟨.qu .c4 v p, rfl, rfl, rfl⟩
  rw [if_neg hb] at h
  clear hb
  cases h

open Classical in
/-- the formula with which a text begins, and the rest of the text -/
noncomputable def parse (l : List UInt8) : Option (Fm × List UInt8) :=
  if h : ∃ x : Fm × List UInt8, l = x.1.text ++ x.2 then some (Classical.choose h) else none

theorem parse_some {l : List UInt8} {f : Fm} {r : List UInt8} : parse l = some (f, r) ↔ l = f.text ++ r := by
  unfold parse
  constructor
  · intro h
    split at h
    · rename_i hx
      have := Classical.choose_spec hx
      injection h with h
      rw [h] at this
      exact this
    · cases h
  · intro h
    have hx : ∃ x : Fm × List UInt8, l = x.1.text ++ x.2 := ⟨(f, r), h⟩
    rw [dif_pos hx]
    have hc := Classical.choose_spec hx
    obtain ⟨h1, h2⟩ := Fm.text_inj _ _ _ _ (hc.symm.trans h)
    congr 1
    exact Prod.ext h1 h2

theorem parse_none {l : List UInt8} : parse l = none ↔ ∀ (f : Fm) (r : List UInt8), l ≠ f.text ++ r := by
  constructor
  · intro h f r e
    rw [parse_some.2 e] at h
    cases h
  · intro h
    cases hp : parse l with
    | none => rfl
    | some x => exact absurd (parse_some.1 hp) (h _ _)

theorem parse_nil : parse [] = none := parse_none.2 fun f r h => by cases f <;> simp [Fm.text] at h

theorem parse_bad {b : UInt8} {l : List UInt8} (h : arity b = none) : parse (b :: l) = none := parse_none.2 fun f r e => by
  rw [Fm.text_eq] at e
  simp at e
  rw [e.1, arity_op] at h
  cases h

/-- the byte of a variable, or none -/
def varOf (b : UInt8) : Option (Fin 4) := if b = 97 then some 0 else if b = 98 then some 1 else if b = 99 then some 2 else if b = 100 then some 3 else none

theorem varOf_vb (v : Fin 4) : varOf (vb v) = some v := by revert v; decide

theorem varOf_some {b : UInt8} {v : Fin 4} : varOf b = some v ↔ b = vb v := by
  constructor
  · intro h
    unfold varOf at h
    split at h; · injection h with h; subst h; assumption
    split at h; · injection h with h; subst h; assumption
    split at h; · injection h with h; subst h; assumption
    split at h; · injection h with h; subst h; assumption
    cases h
  · intro h; subst h; exact varOf_vb v

/-- failing at a variable -/
theorem parse_no_var {b : UInt8} {nv np : Nat} (ha : arity b = some (nv, np)) (vs : List (Fin 4)) (cur : List UInt8) (hk : vs.length < nv)
    (hno : ∀ v r, cur ≠ vb v :: r) : parse (b :: (vs.map vb ++ cur)) = none := parse_none.2 fun f r e => by
  rw [Fm.text_eq] at e
  simp only [List.cons_append, List.cons.injEq, List.append_assoc] at e
  obtain ⟨rfl, e⟩ := e
  rw [arity_op] at ha
  simp at ha
  rcases List.append_eq_append_iff.1 e with ⟨t, h1, h2⟩ | ⟨t, h1, h2⟩
  · have hl : vs.length + t.length = f.vars.length := by have := congrArg List.length h1; simpa using this.symm
    match t, h1, h2, hl with
    | [], _, _, hl => simp at hl; omega
    | x :: t, h1, h2, _ =>
      have : x ∈ f.vars.map vb := by rw [h1]; simp
      obtain ⟨v, _, rfl⟩ := List.mem_map.1 this
      exact hno v _ (by rw [h2]; rfl)
  · have hl : f.vars.length + t.length = vs.length := by have := congrArg List.length h1; simpa using this.symm
    omega

theorem flat_prefix : ∀ (ps qs : List Fm) (cur r : List UInt8), (ps.map Fm.text).flatten ++ cur = (qs.map Fm.text).flatten ++ r → ps.length < qs.length →
    ∃ (f : Fm) (s : List UInt8), cur = f.text ++ s := by
  intro ps
  induction ps with
  | nil =>
    intro qs cur r h hl
    match qs, hl with
    | q :: qs, _ => exact ⟨q, (qs.map Fm.text).flatten ++ r, by simpa using h⟩
  | cons p ps ih =>
    intro qs cur r h hl
    match qs, hl with
    | q :: qs, hl =>
      simp at h hl
      obtain ⟨_, h2⟩ := Fm.text_inj _ _ _ _ h
      exact ih qs cur r (by simpa using h2) hl

/-- failing at a part -/
theorem parse_no_part {b : UInt8} {nv np : Nat} (ha : arity b = some (nv, np)) (vs : List (Fin 4)) (hv : vs.length = nv) (ps : List Fm) (cur : List UInt8) (hk : ps.length < np)
    (hno : parse cur = none) : parse (b :: (vs.map vb ++ ((ps.map Fm.text).flatten ++ cur))) = none := parse_none.2 fun f r e => by
  rw [Fm.text_eq] at e
  simp only [List.cons_append, List.cons.injEq, List.append_assoc] at e
  obtain ⟨rfl, e⟩ := e
  rw [arity_op] at ha
  simp at ha
  have hl : (vs.map vb).length = (f.vars.map vb).length := by simp; omega
  obtain ⟨_, e2⟩ := List.append_inj e hl
  obtain ⟨g, s, hg⟩ := flat_prefix _ _ _ _ e2 (by omega)
  exact parse_none.1 hno g s hg

/-- succeeding -/
theorem parse_all {b : UInt8} {nv np : Nat} (ha : arity b = some (nv, np)) (vs : List (Fin 4)) (hv : vs.length = nv) (ps : List Fm) (hp : ps.length = np) (cur : List UInt8) :
    ∃ f : Fm, f.op = b ∧ f.vars = vs ∧ f.parts = ps ∧ parse (b :: (vs.map vb ++ ((ps.map Fm.text).flatten ++ cur))) = some (f, cur) := by
  obtain ⟨f, rfl, rfl, rfl⟩ := arity_mk ha vs ps hv hp
  exact ⟨f, rfl, rfl, rfl, parse_some.2 (by rw [Fm.text_eq]; simp)⟩

theorem Fm.text_pos (f : Fm) : 0 < f.text.length := by rw [Fm.text_eq]; simp

/-! ### where a formula ends -/

noncomputable def endI (l : List UInt8) (k : Nat) : Int := match parse (l.drop k) with | some (f, _) => ((k + f.text.length : Nat) : Int) | none => -1

theorem endI_some {l : List UInt8} {k : Nat} {f : Fm} {r : List UInt8} (h : l.drop k = f.text ++ r) : endI l k = ((k + f.text.length : Nat) : Int) := by
  unfold endI; rw [parse_some.2 h]

theorem endI_none {l : List UInt8} {k : Nat} (h : parse (l.drop k) = none) : endI l k = -1 := by
  unfold endI; rw [h]

theorem endI_cases (l : List UInt8) (k : Nat) : (parse (l.drop k) = none ∧ endI l k = -1) ∨ ∃ (f : Fm) (r : List UInt8), l.drop k = f.text ++ r ∧ endI l k = ((k + f.text.length : Nat) : Int) := by
  cases h : parse (l.drop k) with
  | none => exact .inl ⟨rfl, endI_none h⟩
  | some x => exact .inr ⟨x.1, x.2, parse_some.1 h, endI_some (parse_some.1 h)⟩

theorem drop_add_of {l : List UInt8} {k : Nat} {p r : List UInt8} (h : l.drop k = p ++ r) : l.drop (k + p.length) = r := by
  rw [← List.drop_drop, h]; simp

theorem endI_le {l : List UInt8} {k : Nat} (hk : k ≤ l.length) : -1 ≤ endI l k ∧ endI l k ≤ l.length := by
  rcases endI_cases l k with ⟨_, h⟩ | ⟨f, r, h1, h⟩
  · rw [h]; omega
  · rw [h]
    have := congrArg List.length h1
    simp at this
    omega

theorem endI_end {l : List UInt8} {k : Nat} (h : l.length ≤ k) : endI l k = -1 := endI_none (by rw [List.drop_eq_nil_of_le h]; exact parse_nil)

theorem endI_bad {l : List UInt8} {k : Nat} {b : UInt8} {r : List UInt8} (h : l.drop k = b :: r) (ha : arity b = none) : endI l k = -1 := endI_none (by rw [h]; exact parse_bad ha)

theorem endI_leaf {l : List UInt8} {k : Nat} {b : UInt8} {r : List UInt8} (h : l.drop k = b :: r) (ha : arity b = some (0, 0)) : endI l k = (k + 1 : Nat) := by
  obtain ⟨f, rfl, h1, h2, h3⟩ := parse_all ha [] rfl [] rfl r
  rw [endI_some (f := f) (r := r) (parse_some.1 (by rw [h]; simpa using h3)), Fm.text_eq, h1, h2]
  simp

/-- the variable at an index, or -1 -/
def varI (l : List UInt8) (k : Nat) : Int := match l[k]? with | some b => (match varOf b with | some v => (v.val : Int) | none => -1) | none => -1

theorem varI_le (l : List UInt8) (k : Nat) : -1 ≤ varI l k ∧ varI l k ≤ 3 := by
  unfold varI
  split
  · split
    · rename_i v _; have := v.isLt; omega
    · omega
  · omega

theorem varI_neg {l : List UInt8} {k : Nat} (h : varI l k < 0) : ∀ v r, l.drop k ≠ vb v :: r := by
  intro v r e
  have : l[k]? = some (vb v) := by
    have h2 : (l.drop k)[0]? = some (vb v) := by rw [e]; rfl
    simpa using h2
  unfold varI at h
  rw [this] at h
  simp only [varOf_vb] at h
  omega

theorem varI_pos {l : List UInt8} {k : Nat} (h : 0 ≤ varI l k) : ∃ v : Fin 4, varI l k = v.val ∧ l.drop k = vb v :: l.drop (k + 1) := by
  unfold varI at h ⊢
  cases hl : l[k]? with
  | none => rw [hl] at h; simp at h
  | some b =>
    rw [hl] at h
    simp only at h ⊢
    cases hv : varOf b with
    | none => rw [hv] at h; simp at h
    | some v =>
      refine ⟨v, rfl, ?_⟩
      obtain ⟨hlt, hb⟩ := List.getElem?_eq_some_iff.1 hl
      rw [List.drop_eq_getElem_cons hlt, hb, varOf_some.1 hv]

theorem endI_var_no {l : List UInt8} {k : Nat} {b : UInt8} {r : List UInt8} {nv np : Nat} (h : l.drop k = b :: r) (ha : arity b = some (nv, np)) (hnv : 0 < nv) (hv : varI l (k + 1) < 0) : endI l k = -1 := by
  have hr : l.drop (k + 1) = r := drop_add_of (p := [b]) (by simpa using h)
  have := parse_no_var ha [] r (by simpa using hnv) (fun v s e => varI_neg hv v s (by rw [hr, e]))
  exact endI_none (by rw [h]; simpa using this)

theorem endI_var2_no {l : List UInt8} {k : Nat} {b : UInt8} {r : List UInt8} {np : Nat} (h : l.drop k = b :: r) (ha : arity b = some (2, np)) (hv : 0 ≤ varI l (k + 1)) (hw : varI l (k + 2) < 0) : endI l k = -1 := by
  have hr : l.drop (k + 1) = r := drop_add_of (p := [b]) (by simpa using h)
  obtain ⟨v, _, h1⟩ := varI_pos hv
  have := parse_no_var ha [v] (l.drop (k + 2)) (by simp) (fun v s e => varI_neg hw v s e)
  exact endI_none (by rw [h, ← hr, h1]; simpa using this)

theorem endI_var1 {l : List UInt8} {k : Nat} {b : UInt8} {r : List UInt8} (h : l.drop k = b :: r) (ha : arity b = some (1, 0)) (hv : 0 ≤ varI l (k + 1)) : endI l k = (k + 2 : Nat) := by
  have hr : l.drop (k + 1) = r := drop_add_of (p := [b]) (by simpa using h)
  obtain ⟨v, _, h1⟩ := varI_pos hv
  obtain ⟨f, rfl, e1, e2, h3⟩ := parse_all ha [v] rfl [] rfl (l.drop (k + 2))
  rw [endI_some (f := f) (r := l.drop (k + 2)) (parse_some.1 (by rw [h, ← hr, h1]; simpa using h3)), Fm.text_eq, e1, e2]
  simp

theorem endI_var2 {l : List UInt8} {k : Nat} {b : UInt8} {r : List UInt8} (h : l.drop k = b :: r) (ha : arity b = some (2, 0)) (hv : 0 ≤ varI l (k + 1)) (hw : 0 ≤ varI l (k + 2)) : endI l k = (k + 3 : Nat) := by
  have hr : l.drop (k + 1) = r := drop_add_of (p := [b]) (by simpa using h)
  obtain ⟨v, _, h1⟩ := varI_pos hv
  obtain ⟨v2, _, h2⟩ := varI_pos hw
  obtain ⟨f, rfl, e1, e2, h3⟩ := parse_all ha [v, v2] rfl [] rfl (l.drop (k + 3))
  rw [endI_some (f := f) (r := l.drop (k + 3)) (parse_some.1 (by rw [h, ← hr, h1, h2]; simpa using h3)), Fm.text_eq, e1, e2]
  simp

theorem endI_neg {l : List UInt8} {k : Nat} {b : UInt8} {r : List UInt8} (h : l.drop k = b :: r) (ha : arity b = some (0, 1)) : endI l k = endI l (k + 1) := by
  have hr : l.drop (k + 1) = r := drop_add_of (p := [b]) (by simpa using h)
  rcases endI_cases l (k + 1) with ⟨h1, h2⟩ | ⟨p, s, h1, h2⟩
  · rw [h2]
    have := parse_no_part ha [] rfl [] r (by simp) (by rw [← hr]; exact h1)
    exact endI_none (by rw [h]; simpa using this)
  · rw [h2]
    obtain ⟨f, rfl, e1, e2, h3⟩ := parse_all ha [] rfl [p] rfl s
    rw [endI_some (f := f) (r := s) (parse_some.1 (by rw [h, ← hr, h1]; simpa using h3)), Fm.text_eq, e1, e2]
    simp; omega

theorem endI_qu {l : List UInt8} {k : Nat} {b : UInt8} {r : List UInt8} (h : l.drop k = b :: r) (ha : arity b = some (1, 1)) (hv : 0 ≤ varI l (k + 1)) : endI l k = endI l (k + 2) := by
  have hr : l.drop (k + 1) = r := drop_add_of (p := [b]) (by simpa using h)
  obtain ⟨v, _, hv1⟩ := varI_pos hv
  rcases endI_cases l (k + 2) with ⟨h1, h2⟩ | ⟨p, s, h1, h2⟩
  · rw [h2]
    have := parse_no_part ha [v] rfl [] (l.drop (k + 2)) (by simp) h1
    exact endI_none (by rw [h, ← hr, hv1]; simpa using this)
  · rw [h2]
    obtain ⟨f, rfl, e1, e2, h3⟩ := parse_all ha [v] rfl [p] rfl s
    rw [endI_some (f := f) (r := s) (parse_some.1 (by rw [h, ← hr, hv1, h1]; simpa using h3)), Fm.text_eq, e1, e2]
    simp; omega

theorem endI_two_no {l : List UInt8} {k : Nat} {b : UInt8} {r : List UInt8} (h : l.drop k = b :: r) (ha : arity b = some (0, 2)) (h1 : endI l (k + 1) < 0) : endI l k = -1 := by
  have hr : l.drop (k + 1) = r := drop_add_of (p := [b]) (by simpa using h)
  rcases endI_cases l (k + 1) with ⟨h2, _⟩ | ⟨p, s, _, h2⟩
  · have := parse_no_part ha [] rfl [] r (by simp) (by rw [← hr]; exact h2)
    exact endI_none (by rw [h]; simpa using this)
  · rw [h2] at h1; omega

theorem endI_two {l : List UInt8} {k : Nat} {b : UInt8} {r : List UInt8} {m : Nat} (h : l.drop k = b :: r) (ha : arity b = some (0, 2)) (h1 : endI l (k + 1) = (m : Int)) : endI l k = endI l m := by
  have hr : l.drop (k + 1) = r := drop_add_of (p := [b]) (by simpa using h)
  rcases endI_cases l (k + 1) with ⟨_, h2⟩ | ⟨p, s, hp, h2⟩
  · rw [h2] at h1; omega
  · have hm : m = k + 1 + p.text.length := by rw [h2] at h1; omega
    have hs : l.drop m = s := by rw [hm]; exact drop_add_of hp
    rcases endI_cases l m with ⟨g1, g2⟩ | ⟨q, s2, g1, g2⟩
    · rw [g2]
      have := parse_no_part ha [] rfl [p] s (by simp) (by rw [← hs]; exact g1)
      exact endI_none (by rw [h, ← hr, hp]; simpa using this)
    · rw [g2]
      obtain ⟨f, rfl, e1, e2, h3⟩ := parse_all ha [] rfl [p, q] rfl s2
      rw [endI_some (f := f) (r := s2) (parse_some.1 (by rw [h, ← hr, hp, ← hs, g1]; simpa using h3)), Fm.text_eq, e1, e2]
      simp; omega

/-! ### formulas of at most 4000 bytes -/

/-- a text is a formula -/
def IsFm (l : List UInt8) : Prop := l.length ≤ 4000 ∧ ∃ f : Fm, l = f.text

theorem isFm_iff {l : List UInt8} : IsFm l ↔ l.length ≤ 4000 ∧ endI l 0 = l.length := by
  unfold IsFm
  constructor
  · rintro ⟨h, f, rfl⟩
    exact ⟨h, by rw [endI_some (f := f) (r := []) (by simp)]; simp⟩
  · rintro ⟨h, e⟩
    refine ⟨h, ?_⟩
    rcases endI_cases l 0 with ⟨_, h2⟩ | ⟨f, r, h1, h2⟩
    · rw [h2] at e; omega
    · refine ⟨f, ?_⟩
      have h3 : f.text.length = l.length := by rw [h2] at e; omega
      have h4 := congrArg List.length h1
      simp only [List.drop_zero, List.length_append] at h4
      have h5 : r = [] := List.eq_nil_of_length_eq_zero (by omega)
      simpa [h5] using h1

end Pl
end Go.Proofs.YtgiaebeoldigbaaDoor

namespace Go.Proofs.YtgiaebeoldigbaaDoor
open Go.RowKit
open Pl

theorem ret_int {k : IntKind} {a b : Int} (h : a = b) : Ending.returned (.int k a) = .returned (.int k b) := by rw [h]
theorem ret_bool {a b : Bool} (h : a = b) : Ending.returned (.bool a) = .returned (.bool b) := by rw [h]

theorem u8_eq {a : UInt8} {n : Nat} (h : ((a.toNat : Int) == (n : Int)) = true) (hn : n < 256) : a = UInt8.ofNat n := by
  have h1 : a.toNat = n := by have := beq_iff_eq.1 h; omega
  apply UInt8.toNat_inj.1
  rw [h1, UInt8.toNat_ofNat']
  omega

theorem u8_eqv {a c : UInt8} (h : ((a.toNat : Int) == (c.toNat : Int)) = true) : a = c := by
  apply UInt8.toNat_inj.1
  have := beq_iff_eq.1 h; omega

theorem u8_nev {a c : UInt8} (h : ((a.toNat : Int) == (c.toNat : Int)) = false) : a ≠ c := by
  rintro rfl
  simp at h

theorem u8_ne {a : UInt8} {n : Nat} (h : ((a.toNat : Int) == (n : Int)) = false) (hn : n < 256) : a ≠ UInt8.ofNat n := by
  rintro rfl
  have : (UInt8.ofNat n).toNat = n := by rw [UInt8.toNat_ofNat']; omega
  rw [this] at h
  simp at h

/-- the index of the first byte c, or -1 -/
def findB (c : UInt8) (l : List UInt8) : Int := match l.findIdx? (· == c) with | some k => (k : Int) | none => -1

theorem findB_at {c : UInt8} {l : List UInt8} {k : Nat} (h : l[k]? = some c) (hno : ∀ i, i < k → l[i]? ≠ some c) : findB c l = k := by
  unfold findB
  have : l.findIdx? (· == c) = some k := by
    rw [List.findIdx?_eq_some_iff_getElem]
    obtain ⟨hlt, he⟩ := List.getElem?_eq_some_iff.1 h
    refine ⟨hlt, by simp [he], fun j hj => ?_⟩
    have := hno j hj
    rw [List.getElem?_eq_getElem (by omega)] at this
    simpa using this
  rw [this]

theorem findB_no {c : UInt8} {l : List UInt8} (hno : ∀ i, i < l.length → l[i]? ≠ some c) : findB c l = -1 := by
  unfold findB
  have : l.findIdx? (· == c) = none := by
    rw [List.findIdx?_eq_none_iff]
    intro x hx
    obtain ⟨i, hi, rfl⟩ := List.getElem_of_mem hx
    have := hno i hi
    rw [List.getElem?_eq_getElem hi] at this
    simpa using this
  rw [this]

theorem findB_nonneg {c : UInt8} {l : List UInt8} : 0 ≤ findB c l ↔ c ∈ l := by
  unfold findB
  cases h : l.findIdx? (· == c) with
  | none =>
    rw [List.findIdx?_eq_none_iff] at h
    constructor
    · intro h2; simp at h2
    · intro hm; have := h c hm; simp at this
  | some k =>
    rw [List.findIdx?_eq_some_iff_getElem] at h
    obtain ⟨hlt, he, _⟩ := h
    constructor
    · intro _; have : l[k] = c := by simpa using he
      rw [← this]; exact List.getElem_mem hlt
    · intro _; simp

theorem findB_ge (c : UInt8) (l : List UInt8) : -1 ≤ findB c l := by unfold findB; split <;> omega

set_option maxHeartbeats 400000 in
theorem l15Find_calls (s : ByteArray) (c : UInt8) (w : World) (hs : s.size ≤ maxLen) :
    Calls Tryd.prog 90 #[.string s, .int .u8 c.toNat] w fun e w' => e = .returned (.int .i64 (findB c s.data.toList)) ∧ w = w' := by
  unfold maxLen at hs
  go_enter Tryd.func90, Tryd.ntmps90
  go_wp2
  go_loop [5] (fun i => ∃ k : Nat, k ≤ s.size ∧ i = .int .i64 k ∧ ∀ i, i < k → s.data.toList[i]? ≠ some c) (fun i => s.size - (intOf i).toNat)
  case atStart => exact ⟨0, Nat.zero_le _, rfl, fun i hi => absurd hi (Nat.not_lt_zero _)⟩
  case round =>
    obtain ⟨k, hk, rfl, hno⟩ := hrel
    have Hno := Lib.hid hno
    clear hno
    by_cases hlt : k < s.size
    · have hg : s.data.toList[k]? = some s[k] := by rw [List.getElem?_eq_getElem (by simpa using hlt)]; rfl
      have Hg := Lib.hid hg
      clear hg
      go_wp2
      · go_ret
        refine ⟨ret_int ?_, rfl⟩
        have he : s[k] = c := u8_eqv (by assumption)
        exact (findB_at (by rw [Hg.out, he]) Hno.out).symm
      · go_round
        case rel =>
          refine ⟨k + 1, by omega, by go_num, fun i hi => ?_⟩
          have he : s[k] ≠ c := u8_nev (by assumption)
          by_cases hik : i = k
          · subst hik; rw [Hg.out]; simpa using he
          · exact Hno.out i (by omega)
        case measure => simp [intOf]; omega
    · go_wp2
      go_ret
      refine ⟨ret_int (findB_no fun i hi => Hno.out i (by simp at hi; omega)).symm, rfl⟩

theorem findB_abcd (b : UInt8) : findB b [97, 98, 99, 100] = match varOf b with | some v => (v.val : Int) | none => -1 := by
  by_cases h0 : b = 97
  · subst h0; rfl
  by_cases h1 : b = 98
  · subst h1; rfl
  by_cases h2 : b = 99
  · subst h2; rfl
  by_cases h3 : b = 100
  · subst h3; rfl
  · simp only [varOf, h0, h1, h2, h3, if_false]
    refine findB_no fun i hi => ?_
    match i, hi with
    | 0, _ => simpa using fun e => h0 e.symm
    | 1, _ => simpa using fun e => h1 e.symm
    | 2, _ => simpa using fun e => h2 e.symm
    | 3, _ => simpa using fun e => h3 e.symm

theorem varI_at {s : ByteArray} {k : Nat} (h : k < s.size) : varI s.data.toList k = match varOf s[k] with | some v => (v.val : Int) | none => -1 := by
  unfold varI
  rw [List.getElem?_eq_getElem (by simpa using h)]
  rfl

theorem varI_out {s : ByteArray} {k : Nat} (h : s.size ≤ k) : varI s.data.toList k = -1 := by
  unfold varI
  rw [List.getElem?_eq_none (by simpa using h)]

set_option maxHeartbeats 400000 in
theorem l2Var_calls (s : ByteArray) (k : Nat) (w : World) (_hs : s.size ≤ maxLen) (_hk : k ≤ maxLen) :
    Calls Tryd.prog 80 #[.string s, .int .i64 k] w fun e w' => e = .returned (.int .i64 (varI s.data.toList k)) ∧ w = w' := by
  by_cases hlt : k < s.size
  · have hv := (findB_abcd s[k]).trans (varI_at hlt).symm
    have Hv := Lib.hid hv
    clear hv
    unfold maxLen at _hs _hk
    go_enter Tryd.func80, Tryd.ntmps80
    go_wp2_with (go_at_call 90; refine (l15Find_calls _ _ _ (by decide)).mono ?_; rintro e w' ⟨rfl, rfl⟩)
    go_ret
    exact ⟨ret_int Hv.out, rfl⟩
  · have hv := varI_out (Nat.le_of_not_lt hlt)
    have Hv := Lib.hid hv
    clear hv
    unfold maxLen at _hs _hk
    go_enter Tryd.func80, Tryd.ntmps80
    go_wp2_with fail
    go_ret
    exact ⟨ret_int Hv.out.symm, rfl⟩

theorem l2Var_at (s : ByteArray) (m : Int) (w : World) (hs : s.size ≤ maxLen) (h0 : 0 ≤ m) (hm : m ≤ maxLen) :
    Calls Tryd.prog 80 #[.string s, .int .i64 m] w fun e w' => e = .returned (.int .i64 (varI s.data.toList m.toNat)) ∧ w = w' := by
  obtain ⟨k, rfl⟩ := Int.eq_ofNat_of_zero_le h0
  exact l2Var_calls s k w hs (by omega)

theorem toNat_add (k j : Nat) : ((k : Int) + (j : Int)).toNat = k + j := by omega
theorem toNat_add1 (k : Nat) : ((k : Int) + 1).toNat = k + 1 := by omega
theorem toNat_add2 (k : Nat) : ((k : Int) + 2).toNat = k + 2 := by omega

set_option maxHeartbeats 400000 in
theorem l2End_neg (s : ByteArray) (k : Int) (w : World) (hk : k < 0) :
    Calls Tryd.prog 79 #[.string s, .int .i64 k] w fun e w' => e = .returned (.int .i64 (-1)) ∧ w = w' := by
  go_enter Tryd.func79, Tryd.ntmps79
  go_wp2_with fail
  go_ret
  exact ⟨rfl, rfl⟩

theorem drop_at {s : ByteArray} {k : Nat} (h : k < s.size) : s.data.toList.drop k = s[k] :: s.data.toList.drop (k + 1) := by
  rw [List.drop_eq_getElem_cons (by simpa using h)]
  rfl

theorem ar_of {a : UInt8} {n : Int} {x : Nat × Nat} (h : ((a.toNat : Int) == n) = true) (hx : arity (UInt8.ofNat n.toNat) = some x) : arity a = some x := by
  have h1 : (a.toNat : Int) = n := beq_iff_eq.1 h
  subst h1
  simpa using hx

theorem arity_no {a : UInt8} (h : ∀ n ∈ [116, 102, 80, 61, 69, 33, 38, 124, 65, 83, 50, 51, (52 : Int)], ((a.toNat : Int) == n) = false) : arity a = none := by
  have g : ∀ n : Nat, n < 256 → ((a.toNat : Int) == (n : Int)) = false → a ≠ UInt8.ofNat n := fun n hn hh => u8_ne hh hn
  unfold arity
  rw [if_neg (show ¬ a = 116 from g 116 (by decide) (h 116 (by simp))), if_neg (show ¬ a = 102 from g 102 (by decide) (h 102 (by simp))), if_neg (show ¬ a = 80 from g 80 (by decide) (h 80 (by simp))), if_neg (show ¬ a = 61 from g 61 (by decide) (h 61 (by simp))), if_neg (show ¬ a = 69 from g 69 (by decide) (h 69 (by simp))), if_neg (show ¬ a = 33 from g 33 (by decide) (h 33 (by simp))), if_neg (show ¬ a = 38 from g 38 (by decide) (h 38 (by simp))), if_neg (show ¬ a = 124 from g 124 (by decide) (h 124 (by simp))), if_neg (show ¬ a = 65 from g 65 (by decide) (h 65 (by simp))), if_neg (show ¬ a = 83 from g 83 (by decide) (h 83 (by simp))), if_neg (show ¬ a = 50 from g 50 (by decide) (h 50 (by simp))), if_neg (show ¬ a = 51 from g 51 (by decide) (h 51 (by simp))), if_neg (show ¬ a = 52 from g 52 (by decide) (h 52 (by simp)))]

/-- where a formula ends, from an index that may be -1 -/
noncomputable def endZ (l : List UInt8) (m : Int) : Int := if m < 0 then -1 else endI l m.toNat

theorem endZ_pos {l : List UInt8} {m : Int} (h : 0 ≤ m) : endZ l m = endI l m.toNat := if_neg (by omega)
theorem endZ_neg {l : List UInt8} {m : Int} (h : m < 0) : endZ l m = -1 := if_pos h

theorem endI_twoZ {l : List UInt8} {k : Nat} {b : UInt8} {r : List UInt8} (h : l.drop k = b :: r) (ha : arity b = some (0, 2)) : endI l k = endZ l (endI l (k + 1)) := by
  by_cases h1 : endI l (k + 1) < 0
  · rw [endZ_neg h1, endI_two_no h ha h1]
  · obtain ⟨m, hm⟩ := Int.eq_ofNat_of_zero_le (show 0 ≤ endI l (k + 1) by omega)
    rw [endI_two h ha hm, hm, endZ_pos (by omega)]
    simp

theorem endI_gt {l : List UInt8} {k : Nat} : endI l k < 0 ∨ (k : Int) < endI l k := by
  rcases endI_cases l k with ⟨_, h⟩ | ⟨f, r, _, h⟩
  · left; omega
  · right; have := f.text_pos; omega

set_option maxHeartbeats 1000000 in
theorem l2End_calls (n : Nat) : ∀ (s : ByteArray) (k : Nat) (w : World), s.size ≤ k + n → s.size ≤ maxLen - 8 → k ≤ s.size + 4 →
    Calls Tryd.prog 79 #[.string s, .int .i64 k] w fun e w' => e = .returned (.int .i64 (endI s.data.toList k)) ∧ w = w' := by
  induction n with
  | zero =>
    intro s k w hn hs _hk
    have hv := endI_end (l := s.data.toList) (k := k) (by simpa using hn)
    have Hv := Lib.hid hv
    clear hv
    unfold maxLen at hs
    go_enter Tryd.func79, Tryd.ntmps79
    go_wp2_with fail
    go_ret
    exact ⟨ret_int Hv.out.symm, rfl⟩
  | succ n ih =>
    intro s k w hn hs hk
    by_cases hlt : k < s.size
    · have hd := drop_at hlt
      have Hd := Lib.hid hd
      have Ih := Lib.hid ih
      clear hd ih
      have hss : s.size ≤ maxLen := by unfold maxLen at *; omega
      have ihm : ∀ (m : Int) (w : World), (m < 0 ∨ (k : Int) < m) → m ≤ s.size + 4 → Calls Tryd.prog 79 #[.string s, .int .i64 m] w fun e w' => e = .returned (.int .i64 (endZ s.data.toList m)) ∧ w = w' := by
        intro m w h1 h2
        by_cases hm : m < 0
        · rw [endZ_neg hm]; exact l2End_neg s m w hm
        · obtain ⟨j, rfl⟩ := Int.eq_ofNat_of_zero_le (show 0 ≤ m by omega)
          rw [endZ_pos (by omega)]
          exact Ih.out s j w (by omega) hs (by omega)
      have Ihm := Lib.hid ihm
      clear ihm
      have hsz : s.data.toList.length = s.size := by simp
      have he1 : endI s.data.toList (k + 1) < 0 ∨ (k : Int) < endI s.data.toList (k + 1) := by
        have := endI_gt (l := s.data.toList) (k := k + 1); omega
      have he2 : endI s.data.toList (k + 1) ≤ s.size := by
        have := (endI_le (l := s.data.toList) (k := k + 1) (by omega)).2; omega
      have Hsz := Lib.hid hsz
      have He1 := Lib.hid he1
      clear hsz he1
      unfold maxLen at hs
      go_enter Tryd.func79, Tryd.ntmps79
      go_wp2_with (first | (go_at_call 80; refine (l2Var_at _ _ _ hss (by omega) (by unfold maxLen; omega)).mono ?_; rintro e w' ⟨rfl, rfl⟩; simp only [toNat_add1, toNat_add2]) | (go_at_call 79; refine (Ihm.out _ _ (by first | exact He1.out | omega) (by omega)).mono ?_; rintro e w' ⟨rfl, rfl⟩; try simp only [endZ_pos (show 0 ≤ (k : Int) + 1 by omega), endZ_pos (show 0 ≤ (k : Int) + 2 by omega), toNat_add1, toNat_add2]))
      all_goals (go_ret; refine ⟨ret_int ?_, rfl⟩)
      all_goals first
        | (have h := endI_leaf Hd.out (ar_of (n := 116) (by assumption) rfl); omega)
        | (have h := endI_leaf Hd.out (ar_of (n := 102) (by assumption) rfl); omega)
        | (have h := endI_var_no Hd.out (ar_of (n := 80) (by assumption) rfl) (by decide) (by omega); omega)
        | (have h := endI_var1 Hd.out (ar_of (n := 80) (by assumption) rfl) (by omega); omega)
        | (have h := endI_var_no Hd.out (ar_of (n := 61) (by assumption) rfl) (by decide) (by omega); omega)
        | (have h := endI_var2_no Hd.out (ar_of (n := 61) (by assumption) rfl) (by omega) (by omega); omega)
        | (have h := endI_var2 Hd.out (ar_of (n := 61) (by assumption) rfl) (by omega) (by omega); omega)
        | (have h := endI_var_no Hd.out (ar_of (n := 69) (by assumption) rfl) (by decide) (by omega); omega)
        | (have h := endI_var2_no Hd.out (ar_of (n := 69) (by assumption) rfl) (by omega) (by omega); omega)
        | (have h := endI_var2 Hd.out (ar_of (n := 69) (by assumption) rfl) (by omega) (by omega); omega)
        | (have h := endI_neg Hd.out (ar_of (n := 33) (by assumption) rfl); omega)
        | (have h := endI_twoZ Hd.out (ar_of (n := 38) (by assumption) rfl); omega)
        | (have h := endI_twoZ Hd.out (ar_of (n := 124) (by assumption) rfl); omega)
        | (have h := endI_var_no Hd.out (ar_of (n := 65) (by assumption) rfl) (by decide) (by omega); omega)
        | (have h := endI_qu Hd.out (ar_of (n := 65) (by assumption) rfl) (by omega); omega)
        | (have h := endI_var_no Hd.out (ar_of (n := 83) (by assumption) rfl) (by decide) (by omega); omega)
        | (have h := endI_qu Hd.out (ar_of (n := 83) (by assumption) rfl) (by omega); omega)
        | (have h := endI_var_no Hd.out (ar_of (n := 50) (by assumption) rfl) (by decide) (by omega); omega)
        | (have h := endI_qu Hd.out (ar_of (n := 50) (by assumption) rfl) (by omega); omega)
        | (have h := endI_var_no Hd.out (ar_of (n := 51) (by assumption) rfl) (by decide) (by omega); omega)
        | (have h := endI_qu Hd.out (ar_of (n := 51) (by assumption) rfl) (by omega); omega)
        | (have h := endI_var_no Hd.out (ar_of (n := 52) (by assumption) rfl) (by decide) (by omega); omega)
        | (have h := endI_qu Hd.out (ar_of (n := 52) (by assumption) rfl) (by omega); omega)
        | (refine (endI_bad Hd.out (arity_no fun n hn => ?_)).symm
           simp only [List.mem_cons, List.not_mem_nil, or_false] at hn
           rcases hn with rfl | rfl | rfl | rfl | rfl | rfl | rfl | rfl | rfl | rfl | rfl | rfl | rfl <;> assumption)
    · have hv := endI_end (l := s.data.toList) (k := k) (by simp; omega)
      have Hv := Lib.hid hv
      clear hv
      unfold maxLen at hs
      go_enter Tryd.func79, Tryd.ntmps79
      go_wp2_with fail
      go_ret
      exact ⟨ret_int Hv.out.symm, rfl⟩

/-- is a text a formula, as a Bool -/
noncomputable def fmB (l : List UInt8) : Bool := decide (l.length ≤ 4000) && (endI l 0 == (l.length : Int))

theorem fmB_true {l : List UInt8} : fmB l = true ↔ IsFm l := by
  rw [isFm_iff]; simp [fmB]

theorem fmB_false {l : List UInt8} : fmB l = false ↔ ¬ IsFm l := by
  rw [← fmB_true]; simp

theorem l2End_zero (s : ByteArray) (w : World) (hs : s.size ≤ 4000) :
    Calls Tryd.prog 79 #[.string s, .int .i64 0] w fun e w' => e = .returned (.int .i64 (endI s.data.toList 0)) ∧ w = w' :=
  l2End_calls s.size s 0 w (by omega) (by unfold maxLen; omega) (by omega)

set_option maxHeartbeats 400000 in
theorem FormulaValid_spec (s : ByteArray) (w : World) (hs : s.size ≤ maxLen) :
    Calls Tryd.prog 48 #[.string s] w fun e w' => e = .returned (.bool (fmB s.data.toList)) ∧ w = w' := by
  by_cases h : s.size ≤ 4000
  · have hv : fmB s.data.toList = (endI s.data.toList 0 == (s.size : Int)) := by simp [fmB, h]
    have Hv := Lib.hid hv
    clear hv
    unfold maxLen at hs
    go_enter Tryd.func48, Tryd.ntmps48
    go_wp2_with (go_at_call 79; refine (l2End_zero _ _ h).mono ?_; rintro e w' ⟨rfl, rfl⟩)
    go_ret
    exact ⟨ret_bool (by rw [Hv.out]), rfl⟩
  · have hv : fmB s.data.toList = false := by simp [fmB]; omega
    have Hv := Lib.hid hv
    clear hv
    unfold maxLen at hs
    go_enter Tryd.func48, Tryd.ntmps48
    go_wp2_with fail
    go_ret
    exact ⟨ret_bool (by rw [Hv.out]), rfl⟩

end Go.Proofs.YtgiaebeoldigbaaDoor

namespace Go.Proofs.YtgiaebeoldigbaaDoor
open Go.RowKit
open Pl
set_option maxRecDepth 100000

theorem slIndexByte_calls (s : ByteArray) (c : Int) (w : World) :
    Calls Tryd.prog 117 #[.string s, .int .u8 c] w fun e w' => e = .returned (.int .i64 (Lib.indexByte s.data.toList c.toNat.toUInt8)) ∧ w = w' := by
  go_enter Tryd.func117, Tryd.ntmps117
  go_wp2
  rw [run_callFunc_extern Tryd.func123 (by kernel_rfl) (by kernel_rfl) (by kernel_rfl) (by kernel_rfl), Lib.run_indexByteString]
  simp only [Result.andThen]
  rw [Oper.upon_value]
  go_wp2
  go_ret
  exact ⟨rfl, rfl⟩

theorem IndexByte_calls (s : ByteArray) (c : UInt8) (w : World) :
    Calls Tryd.prog 104 #[.string s, .int .u8 c.toNat] w fun e w' => e = .returned (.int .i64 (Lib.indexByte s.data.toList c)) ∧ w = w' := by
  go_enter Tryd.func104, Tryd.ntmps104
  go_wp2_with (go_at_call 117; refine (slIndexByte_calls _ _ _).mono ?_; rintro e w' ⟨rfl, rfl⟩)
  go_ret
  exact ⟨ret_int (by simp), rfl⟩

theorem slIndex_one (s t : ByteArray) (b : UInt8) (ht : t.data.toList = [b]) (w : World) :
    Calls Tryd.prog 118 #[.string s, .string t] w fun e w' => e = .returned (.int .i64 (Lib.indexByte s.data.toList b)) ∧ w = w' := by
  have hsz : t.size = 1 := by have := congrArg List.length ht; simpa using this
  have hb : ∀ h : 0 < t.size, t[0] = b := fun h => by
    have h1 : t.data.toList[0]? = some b := by rw [ht]; rfl
    rw [List.getElem?_eq_getElem (by simpa using h)] at h1
    injection h1
  have Hb := Lib.hid hb
  have Ht := Lib.hid ht
  clear hb ht
  go_enter Tryd.func118, Tryd.ntmps118
  go_wp2_with (go_at_call 117; refine (slIndexByte_calls _ _ _).mono ?_; rintro e w' ⟨rfl, rfl⟩)
  · go_ret
    refine ⟨ret_int ?_, rfl⟩
    have he : (t.toList == s.toList) = true := by assumption
    have he2 : t.toList = s.toList := eq_of_beq he
    rw [ByteArray.toList_eq, ByteArray.toList_eq, Ht.out] at he2
    rw [← he2]
    simp [Lib.indexByte]
  · go_ret
    exact ⟨ret_int (by rw [Hb.out (by omega)]), rfl⟩

theorem Contains_one (s t : ByteArray) (b : UInt8) (ht : t.data.toList = [b]) (w : World) :
    Calls Tryd.prog 94 #[.string s, .string t] w fun e w' => e = .returned (.bool (decide (0 ≤ Lib.indexByte s.data.toList b))) ∧ w = w' := by
  have Ht := Lib.hid ht
  clear ht
  have h36 : ∀ w, Calls Tryd.prog 106 #[.string s, .string t] w fun e w' => e = .returned (.int .i64 (Lib.indexByte s.data.toList b)) ∧ w = w' := fun w => by
    go_enter Tryd.func106, Tryd.ntmps106
    go_wp2_with (go_at_call 118; refine (slIndex_one _ _ b Ht.out _).mono ?_; rintro e w' ⟨rfl, rfl⟩)
    go_ret
    exact ⟨rfl, rfl⟩
  have H36 := Lib.hid h36
  clear h36
  go_enter Tryd.func94, Tryd.ntmps94
  go_wp2_with (go_at_call 106; refine (H36.out _).mono ?_; rintro e w' ⟨rfl, rfl⟩)
  go_ret
  exact ⟨rfl, rfl⟩

/-! ### the tree in memory -/

/-- the variables that are free, as bits -/
def Pl.Fm.freeBits : Fm → Nat
  | .tru => 0 | .fls => 0 | .pr v => 1 <<< v.val | .eq v w => 1 <<< v.val ||| 1 <<< w.val | .rel v w => 1 <<< v.val ||| 1 <<< w.val
  | .neg p => p.freeBits | .con p q => p.freeBits ||| q.freeBits | .dis p q => p.freeBits ||| q.freeBits
  | .qu _ v p => p.freeBits &&& (15 ^^^ 1 <<< v.val)

/-- all variables, as bits -/
def Pl.Fm.allBits : Fm → Nat
  | .tru => 0 | .fls => 0 | .pr v => 1 <<< v.val | .eq v w => 1 <<< v.val ||| 1 <<< w.val | .rel v w => 1 <<< v.val ||| 1 <<< w.val
  | .neg p => p.allBits | .con p q => p.allBits ||| q.allBits | .dis p q => p.allBits ||| q.allBits
  | .qu _ v p => 1 <<< v.val ||| p.allBits

abbrev kidV (k : Nat) : Value := .pointer (some ⟨k, 0, none⟩)
def byteV (b : UInt8) : Value := .int .u8 b.toNat

/-- block b holds a node with this operator, these variables, these masks and these children; all blocks that it owns are in S -/
def NodeIn (S : Nat → Prop) (w : World) (op : UInt8) (vars : List (Fin 4)) (free all : Nat) (b : Nat) (ks : List Nat) : Prop :=
  S b ∧ ∃ vs ps, w.heap[b]? = some (.cells #[.int .u8 op.toNat, vs, ps, .int .i64 free, .int .i64 all] 66 (0, 0)) ∧
    w.ownsRow 0 5 1 vs vars.length (vars.map fun v => byteV (vb v)) ∧ (∀ k, vs.ownBlock = some k → S k) ∧
    w.ownsRow 0 61 1 ps ks.length (ks.map kidV) ∧ (∀ k, ps.ownBlock = some k → S k)

def FmNode (S : Nat → Prop) (w : World) (f : Fm) (b : Nat) (ks : List Nat) : Prop := NodeIn S w f.op f.vars f.freeBits f.allBits b ks

/-- block b holds the tree of a formula, whose blocks are all in S -/
def TreeIn (S : Nat → Prop) (w : World) : Fm → Nat → Prop
  | .neg p, b => ∃ k, FmNode S w (.neg p) b [k] ∧ TreeIn S w p k
  | .qu q v p, b => ∃ k, FmNode S w (.qu q v p) b [k] ∧ TreeIn S w p k
  | .con p q, b => ∃ k l, FmNode S w (.con p q) b [k, l] ∧ TreeIn S w p k ∧ TreeIn S w q l
  | .dis p q, b => ∃ k l, FmNode S w (.dis p q) b [k, l] ∧ TreeIn S w p k ∧ TreeIn S w q l
  | .tru, b => FmNode S w .tru b []
  | .fls, b => FmNode S w .fls b []
  | .pr v, b => FmNode S w (.pr v) b []
  | .eq v u, b => FmNode S w (.eq v u) b []
  | .rel v u, b => FmNode S w (.rel v u) b []

/-- the trees of a list of formulas -/
def TreesIn (S : Nat → Prop) (w : World) (ps : List Fm) (ks : List Nat) : Prop := ks.length = ps.length ∧ ∀ (i : Nat) (p : Fm) (k : Nat), ps[i]? = some p → ks[i]? = some k → TreeIn S w p k

theorem treesIn_nil (S : Nat → Prop) (w : World) : TreesIn S w [] [] := ⟨rfl, fun i p k h => by simp at h⟩
theorem treesIn_one {S : Nat → Prop} {w : World} {p : Fm} {k : Nat} (h : TreeIn S w p k) : TreesIn S w [p] [k] := ⟨rfl, fun i p' k' h1 h2 => by
  match i, h1, h2 with
  | 0, h1, h2 => simp at h1 h2; subst h1 h2; exact h⟩
theorem treesIn_two {S : Nat → Prop} {w : World} {p q : Fm} {k l : Nat} (h : TreeIn S w p k) (h' : TreeIn S w q l) : TreesIn S w [p, q] [k, l] := ⟨rfl, fun i p' k' h1 h2 => by
  match i, h1, h2 with
  | 0, h1, h2 => simp at h1 h2; subst h1 h2; exact h
  | 1, h1, h2 => simp at h1 h2; subst h1 h2; exact h'⟩
theorem treesIn_snoc {S : Nat → Prop} {w : World} {ps : List Fm} {ks : List Nat} {p : Fm} {k : Nat} (hs : TreesIn S w ps ks) (h : TreeIn S w p k) : TreesIn S w (ps ++ [p]) (ks ++ [k]) :=
  ⟨by simp [hs.1], fun i p' k' h1 h2 => by
    by_cases hi : i < ps.length
    · rw [List.getElem?_append_left hi] at h1
      rw [List.getElem?_append_left (by rw [hs.1]; exact hi)] at h2
      exact hs.2 i p' k' h1 h2
    · rw [List.getElem?_append_right (by omega)] at h1
      rw [List.getElem?_append_right (by rw [hs.1]; omega), hs.1] at h2
      match i - ps.length, h1, h2 with
      | 0, h1, h2 => simp at h1 h2; subst h1 h2; exact h
      | j + 1, h1, h2 => simp at h1⟩

theorem TreeIn.open {S : Nat → Prop} {w : World} {f : Fm} {b : Nat} (h : TreeIn S w f b) : ∃ ks, FmNode S w f b ks ∧ TreesIn S w f.parts ks := by
  cases f with
  | tru => exact ⟨[], h, treesIn_nil _ _⟩
  | fls => exact ⟨[], h, treesIn_nil _ _⟩
  | pr v => exact ⟨[], h, treesIn_nil _ _⟩
  | eq v u => exact ⟨[], h, treesIn_nil _ _⟩
  | rel v u => exact ⟨[], h, treesIn_nil _ _⟩
  | neg p => obtain ⟨k, h1, h2⟩ := h; exact ⟨_, h1, treesIn_one h2⟩
  | qu q v p => obtain ⟨k, h1, h2⟩ := h; exact ⟨_, h1, treesIn_one h2⟩
  | con p q => obtain ⟨k, l, h1, h2, h3⟩ := h; exact ⟨_, h1, treesIn_two h2 h3⟩
  | dis p q => obtain ⟨k, l, h1, h2, h3⟩ := h; exact ⟨_, h1, treesIn_two h2 h3⟩

theorem TreeIn.shut {S : Nat → Prop} {w : World} {f : Fm} {b : Nat} {ks : List Nat} (h : FmNode S w f b ks) (ht : TreesIn S w f.parts ks) : TreeIn S w f b := by
  obtain ⟨hl, ht⟩ := ht
  cases f with
  | tru => match ks, hl with | [], _ => exact h
  | fls => match ks, hl with | [], _ => exact h
  | pr v => match ks, hl with | [], _ => exact h
  | eq v u => match ks, hl with | [], _ => exact h
  | rel v u => match ks, hl with | [], _ => exact h
  | neg p => match ks, hl with | [k], _ => exact ⟨k, h, ht 0 p k rfl rfl⟩
  | qu q v p => match ks, hl with | [k], _ => exact ⟨k, h, ht 0 p k rfl rfl⟩
  | con p q => match ks, hl with | [k, l], _ => exact ⟨k, l, h, ht 0 p k rfl rfl, ht 1 q l rfl rfl⟩
  | dis p q => match ks, hl with | [k, l], _ => exact ⟨k, l, h, ht 0 p k rfl rfl, ht 1 q l rfl rfl⟩

theorem block_lt {w : World} {b : Nat} {x : Obj} (h : w.heap[b]? = some x) : b < w.heap.size := by
  rcases Nat.lt_or_ge b w.heap.size with hlt | hge
  · exact hlt
  · rw [Array.getElem?_eq_none hge] at h; cases h

/-- a row keeps, where its block does -/
theorem ownsRow_keep {w w' : World} {base base' : Nat} {e : TypeId} {size : Nat} {v : Value} {n : Nat} {xs : List Value} (h : w.ownsRow base e size v n xs)
    (hk : ∀ g, v.ownBlock = some g → w'.heap[g]? = w.heap[g]? ∧ base' ≤ g) : w'.ownsRow base' e size v n xs := by
  obtain ⟨hl, h | ⟨g, cap, cur, rfl, h2, h3, h4⟩⟩ := h
  · exact ⟨hl, .inl h⟩
  · obtain ⟨e1, e2⟩ := hk g rfl
    exact ⟨hl, .inr ⟨g, cap, cur, rfl, e2, e1.trans h3, h4⟩⟩

theorem ownsRow_lt {w : World} {base : Nat} {e : TypeId} {size : Nat} {v : Value} {n : Nat} {xs : List Value} (h : w.ownsRow base e size v n xs) {k : Nat} (hk : v.ownBlock = some k) : base ≤ k ∧ k < w.heap.size := h.lt k hk

/-- what a node's keeping asks -/
theorem NodeIn.keep {S S' : Nat → Prop} {w w' : World} {op : UInt8} {vars : List (Fin 4)} {free all b : Nat} {ks : List Nat} (h : NodeIn S w op vars free all b ks)
    (hk : ∀ g, S g → g < w.heap.size → w'.heap[g]? = w.heap[g]? ∧ S' g) : NodeIn S' w' op vars free all b ks := by
  obtain ⟨h0, vs, ps, h1, h2, h3, h4, h5⟩ := h
  have e := hk b h0 (block_lt h1)
  exact ⟨e.2, vs, ps, e.1.trans h1,
    ownsRow_keep h2 (fun g hg => ⟨(hk g (h3 g hg) (ownsRow_lt h2 hg).2).1, Nat.zero_le _⟩), fun g hg => (hk g (h3 g hg) (ownsRow_lt h2 hg).2).2,
    ownsRow_keep h4 (fun g hg => ⟨(hk g (h5 g hg) (ownsRow_lt h4 hg).2).1, Nat.zero_le _⟩), fun g hg => (hk g (h5 g hg) (ownsRow_lt h4 hg).2).2⟩

theorem TreeIn.keep {S S' : Nat → Prop} {w w' : World} (hk : ∀ g, S g → g < w.heap.size → w'.heap[g]? = w.heap[g]? ∧ S' g) : ∀ (f : Fm) (b : Nat), TreeIn S w f b → TreeIn S' w' f b := by
  intro f
  induction f with
  | tru => intro b h; exact NodeIn.keep h hk
  | fls => intro b h; exact NodeIn.keep h hk
  | pr v => intro b h; exact NodeIn.keep h hk
  | eq v u => intro b h; exact NodeIn.keep h hk
  | rel v u => intro b h; exact NodeIn.keep h hk
  | neg p ih => intro b h; obtain ⟨k, h1, h2⟩ := h; exact ⟨k, NodeIn.keep h1 hk, ih _ h2⟩
  | qu q v p ih => intro b h; obtain ⟨k, h1, h2⟩ := h; exact ⟨k, NodeIn.keep h1 hk, ih _ h2⟩
  | con p q ihp ihq => intro b h; obtain ⟨k, l, h1, h2, h3⟩ := h; exact ⟨k, l, NodeIn.keep h1 hk, ihp _ h2, ihq _ h3⟩
  | dis p q ihp ihq => intro b h; obtain ⟨k, l, h1, h2, h3⟩ := h; exact ⟨k, l, NodeIn.keep h1 hk, ihp _ h2, ihq _ h3⟩

theorem TreesIn.keep {S S' : Nat → Prop} {w w' : World} (hk : ∀ g, S g → g < w.heap.size → w'.heap[g]? = w.heap[g]? ∧ S' g) {ps : List Fm} {ks : List Nat} (h : TreesIn S w ps ks) : TreesIn S' w' ps ks :=
  ⟨h.1, fun i p k h1 h2 => TreeIn.keep hk p k (h.2 i p k h1 h2)⟩

/-- the tree lies from block lo on -/
def TreeAt (lo : Nat) (w : World) (f : Fm) (b : Nat) : Prop := TreeIn (fun g => lo ≤ g) w f b

theorem TreeAt.below {lo : Nat} {w w' : World} {f : Fm} {b : Nat} (h : TreeAt lo w f b) (hb : Below w.heap.size w w') : TreeAt lo w' f b :=
  TreeIn.keep (fun g hs hg => ⟨hb.block g hg, hs⟩) f b h

theorem TreeAt.base {lo lo' : Nat} {w : World} {f : Fm} {b : Nat} (h : TreeAt lo w f b) (hl : lo' ≤ lo) : TreeAt lo' w f b :=
  TreeIn.keep (fun _ hs _ => ⟨rfl, Nat.le_trans hl hs⟩) f b h

theorem TreeAt.drew {lo : Nat} {w : World} {f : Fm} {b : Nat} (h : TreeAt lo w f b) : TreeAt lo w.drew f b := TreeIn.keep (w := w) (w' := w.drew) (fun _ hs _ => ⟨rfl, hs⟩) f b h

end Go.Proofs.YtgiaebeoldigbaaDoor
