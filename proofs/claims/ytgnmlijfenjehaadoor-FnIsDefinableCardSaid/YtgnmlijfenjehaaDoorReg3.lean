/-
  Regions that draw their order, walked by a tree of orders that is laid beforehand; an append at an operation. No condition.
-/
import Derived.Test.YtgnmlijfenjehaaDoorReg
import Derived.Maps.AppendAt
namespace Go.Proofs.YtgnmlijfenjehaaDoor
namespace R3
open Go.RowKit
set_option linter.unusedVariables false

/-- orders: an operation that is taken first, one that alone may come up, two that may -/
inductive Tr where
  | nil
  | take (i : Nat) (t : Tr)
  | one (i : Nat) (t : Tr)
  | two (i j : Nat) (t u : Tr)

section
variable {P : Program} {ops : Array Oper} {Q : Exit → Act → World → Prop} {md : Region.Mode} {S : World → Prop}

def okR (md : Region.Mode) (ops : Array Oper) : Tr → Nat → Array Bool → Bool
  | .nil, n, l => n == 0 && (Region.ready md ops l).isEmpty
  | .take i t, n, l => n != 0 && (Region.free md ops l i && ((Region.ready md ops l).contains i && okR md ops t (n - 1) (l.setIfInBounds i true)))
  | .one i t, n, l => n != 0 && ((Region.ready md ops l == [i]) && okR md ops t (n - 1) (l.setIfInBounds i true))
  | .two i j t u, n, l => n != 0 && ((Region.ready md ops l == [i, j]) && (okR md ops t (n - 1) (l.setIfInBounds i true) && okR md ops u (n - 1) (l.setIfInBounds j true)))

def wpR (P : Program) (ops : Array Oper) (Q : Exit → Act → World → Prop) (S : World → Prop) : Tr → Act → World → Prop
  | .nil, a, w => Q .normal a w
  | .take i t, a, w => ∃ o v, ops[i]? = some o ∧ YieldsIf P ops S o v a ∧ wpR P ops Q S t (a.put o.dst v) w
  | .one i t, a, w => wpOp P ops Q i (fun a' w' => S w' ∧ wpR P ops Q S t a' w') a w
  | .two i j t u, a, w => wpOp P ops Q i (fun a' w' => S w' ∧ wpR P ops Q S t a' w') a w ∧ wpOp P ops Q j (fun a' w' => S w' ∧ wpR P ops Q S u a' w') a w

theorem anyH_tree (hs : Region.noSelect ops = true) (hQ : ∀ t c a w, Q (.panic c) { a with tmps := t } w → Q (.panic c) a w) :
    ∀ (t : Tr) (n : Nat) (l : Array Bool) (a : Act) (w : World), okR md ops t n l = true → S w → wpR P ops Q S t a w → wpAnyH P md ops Q S n l a w := by
  intro t
  induction t with
  | nil =>
    intro n l a w h _ hw
    simp only [okR, Bool.and_eq_true, beq_iff_eq, List.isEmpty_iff] at h
    obtain ⟨rfl, h2⟩ := h
    exact ⟨h2, hw⟩
  | take i t ih =>
    intro n l a w h hS hw
    simp only [okR, Bool.and_eq_true, bne_iff_ne] at h
    obtain ⟨hn, h1, h2, h3⟩ := h
    obtain ⟨m, rfl⟩ : ∃ m, n = m + 1 := ⟨n - 1, by omega⟩
    obtain ⟨o, v, ho, hy, hr⟩ := hw
    exact wpAnyH_take ho hs h1 h2 (fun c a w h => by cases hd : o.dst with | none => rw [hd] at h; exact h | some d => rw [hd] at h; exact hQ _ c a w h) hy hS (ih _ _ _ _ h3 hS hr)
  | one i t ih =>
    intro n l a w h hS hw
    simp only [okR, Bool.and_eq_true, bne_iff_ne, beq_iff_eq] at h
    obtain ⟨hn, h1, h3⟩ := h
    obtain ⟨m, rfl⟩ : ∃ m, n = m + 1 := ⟨n - 1, by omega⟩
    refine wpAnyH_all h1 (by simp) fun j hj => ?_
    obtain rfl : j = i := by simpa using hj
    exact wpOp_mono (fun a' w' hk => ⟨hk.1, ih _ _ _ _ h3 hk.1 hk.2⟩) hw
  | two i j t u iht ihu =>
    intro n l a w h hS hw
    simp only [okR, Bool.and_eq_true, bne_iff_ne, beq_iff_eq] at h
    obtain ⟨hn, h1, h3, h4⟩ := h
    obtain ⟨m, rfl⟩ : ∃ m, n = m + 1 := ⟨n - 1, by omega⟩
    refine wpAnyH_all h1 (by simp) fun k hk => ?_
    have hk2 : k = i ∨ k = j := by simpa using hk
    rcases hk2 with rfl | rfl
    · exact wpOp_mono (fun a' w' hk => ⟨hk.1, iht _ _ _ _ h3 hk.1 hk.2⟩) hw.1
    · exact wpOp_mono (fun a' w' hk => ⟨hk.1, ihu _ _ _ _ h4 hk.1 hk.2⟩) hw.2

/-- the same, behind a name that nothing unfolds -/
structure Sd (P : Program) (ops : Array Oper) (Q : Exit → Act → World → Prop) (S : World → Prop) (t : Tr) (a : Act) (w : World) : Prop where
  out : wpR P ops Q S t a w

theorem region_tree {id : Nat} {a : Act} {w : World} (t : Tr) (S : World → Prop) (hm : P.follows .mixedOrders = true) (hs : Region.noSelect ops = true)
    (hk : okR .any ops t ops.size (Array.replicate ops.size false) = true) (hQ : ∀ t c a w, Q (.panic c) { a with tmps := t } w → Q (.panic c) a w) (hS : S w.drew)
    (h : ∀ Q' : Exit → Act → World → Prop, Hid (∀ a' w', Q .normal a' w' → Q' .normal a' w') → Sd P ops Q' S t a w.drew) : (Code.region id ops true).wp P Q a w :=
  wp_region_held (S := S) hm (anyH_tree (md := .any) (S := S) hs hQ t ops.size _ a w.drew hk hS (h Q (Lib.hid fun _ _ h => h)).out)

theorem tree_take {i : Nat} {t : Tr} {a : Act} {w : World} {o : Oper} {v : Value} {a' : Act} (ho : ops[i]? = some o) (hw : Region.wanted o (yielded ops a.tmps) = true) (hy : ∀ w, S w → (execOp a.eval o).run P w = .ok (.value v) w)
    {d : Tmp} (hd : o.dst = some d) (ha : a.put (some d) v = a') (h : Sd P ops Q S t a' w) : Sd P ops Q S (.take i t) a w := ⟨⟨o, v, ho, .inl ⟨hw, hy⟩, by rw [hd, ha]; exact h.out⟩⟩
theorem tree_one {i : Nat} {t : Tr} {a : Act} {w : World} {o : Oper} (ho : ops[i]? = some o) (hw : Region.wanted o (yielded ops a.tmps) = true)
    (h : ∀ K : Act → World → Prop, Hid (∀ a' w', S w' → Sd P ops Q S t a' w' → K a' w') → o.wp P a w K Q) : Sd P ops Q S (.one i t) a w := by
  refine ⟨?_⟩
  show wpOp P ops Q i _ a w
  unfold wpOp
  simp only [ho, hw, if_true]
  exact .inl (h _ (Lib.hid fun _ _ h1 h2 => ⟨h1, h2.out⟩))
theorem tree_two {i j : Nat} {t u : Tr} {a : Act} {w : World} (h1 : Sd P ops Q S (.one i t) a w) (h2 : Sd P ops Q S (.one j u) a w) : Sd P ops Q S (.two i j t u) a w := ⟨⟨h1.out, h2.out⟩⟩
theorem tree_lay {t : Tr} {a a' : Act} {w : World} (ha : a = a') (h : Sd P ops Q S t a' w) : Sd P ops Q S t a w := by rw [ha]; exact h
theorem tree_done {a : Act} {w : World} (h : Q .normal a w) : Sd P ops Q S .nil a w := ⟨h⟩

/-- an append, at an operation -/
theorem wp_app {o : Oper} {a : Act} {w : World} {K : Act → World → Prop} (s x : Operand) (t : TypeId)
    (ho : o.op = .call { callee := .builtin .append, args := #[s, x], argTypes := #[t, t] })
    (base : Nat) (e : TypeId) (i : TypeInfo) (z : Value) (size bytes : Nat) (ht : P.underlying t = some (.slice e)) (hi : P.info? e = some i) (hz : i.zero = some z)
    (hsize : i.size = size) (hby : i.bytes = bytes) (hzs : z.cells.size = size) (hsz : 0 < size)
    (v : Value) (n : Nat) (xs : List Value) (hs : a.eval s = v) (hown : w.ownsRow base e size v n xs)
    (ad : Addr) (m c : Nat) (news : List Value) (hx : a.eval x = .slice (some ad) m c) (hl : news.length = m * size) (hnews : ∀ j u, news[j]? = some u → w.cell? (ad.add j) = some u) (h1 : ∀ u ∈ news, u.oneCell' = true)
    (h63 : n + m ≤ maxLen) (hbytes : (n + m) * bytes ≤ 140737488355328) (hbase : base ≤ w.heap.size)
    (h : ∀ v' w', w'.ownsRow base e size v' (n + m) (xs ++ news) → w.grownBy w' v.ownBlock → K (a.put o.dst v') w') : o.wp P a w K Q := by
  obtain ⟨v', w', hr, h2, h3, _, _⟩ := run_append_own_at (P := P) w base t o.type e i z size bytes ht hi hz hsize hby hzs hsz v n xs hown ad m c news hl hnews h1 h63 hbytes hbase
  unfold Oper.wp execOp
  simp only [ho, resolve, invoke, builtin, Sem.run_bind, Sem.run_pure, Result.andThen_ok, List.map_toArray, List.map_cons, List.map_nil, hs, hx, hr]
  exact h v' w' h2 h3
end
end R3
end Go.Proofs.YtgnmlijfenjehaaDoor
