import Derived.Test.YtofkamnmgpkehabOwn
import Derived.Laws.AppendOwnNone
/- Rows that grow: more laws, over any program. -/
namespace Go.Proofs.Ytofkamnmgpkehab
open Go.RowKit
section
variable {P : Program}
/-- append of a whole slice that may be read (nil, or empty, too). -/
theorem wpList_append_reads {ops : Array Oper} {rest : List Oper} {o : Oper} {a : Act} {w : World} {Q : Exit → Act → World → Prop} (hgd : o.guard = none) (s x : Operand) (t : TypeId)
    (ho : o.op = .call { callee := .builtin .append, args := #[s, x], argTypes := #[t, t] })
    (e : TypeId) (i : TypeInfo) (z : Value) (size bytes : Nat) (ht : P.underlying t = some (.slice e)) (hi : P.info? e = some i) (hz : i.zero = some z)
    (hsize : i.size = size) (hby : i.bytes = bytes) (hzs : z.cells.size = size) (hsz : 0 < size)
    (v : Value) (n : Nat) (xs : List Value) (hs : a.eval s = v) (hown : w.ownsRow 0 e size v n xs)
    (u : Value) (m : Nat) (cs : List Value) (hx : a.eval x = u) (hu : Reads w size u m cs) (h1 : ∀ c ∈ cs, c.oneCell' = true)
    (h63 : n + m ≤ maxLen) (hbytes : (n + m) * bytes ≤ 140737488355328)
    (h : ∀ v' w', w'.ownsRow 0 e size v' (n + m) (xs ++ cs) → Grew w w' v v' → wpList P ops Q rest (a.put o.dst v') w') : wpList P ops Q (o :: rest) a w := by
  obtain ⟨a0, cap, rfl, hl, hmc, hcm, hnil, hp⟩ := hu
  cases a0 with
  | none =>
    obtain rfl := hnil rfl
    obtain rfl : m = 0 := by omega
    obtain rfl : cs = [] := List.eq_nil_of_length_eq_zero (by simpa using hl)
    refine wpList_append_own_none hgd s x t ho 0 e i size ht hi v n xs hs hown hx ?_
    have := h v w (by simpa using hown) (Grew.refl _ _)
    exact this
  | some ad =>
    refine wpList_append_grew hgd s x t ho e i z size bytes ht hi hz hsize hby hzs hsz v n xs hs hown ad m cap cs hx hl ?_ h1 h63 hbytes (fun v' w' h2 h3 _ => h v' w' h2 h3)
    intro j c hj
    have hlt : j < cs.length := (List.getElem?_eq_some_iff.1 hj).1
    obtain ⟨b, off, e, _, hc⟩ := hp (Nat.pos_of_ne_zero (fun e => by subst e; simp at hl; subst hl; simp at hlt))
    cases e
    rw [Addr.add_mid, hc j hlt]; exact hj
/-- 'append(s, x)' of one element, the new block's number a letter with an equation. -/
theorem wpList_append1B {w : World} {ops : Array Oper} {rest : List Oper} {o : Oper} {a : Act} {Q : Exit → Act → World → Prop} (hgd : o.guard = none) (s x : Operand) (t : TypeId)
    (ho : o.op = .call { callee := .builtin .append, args := #[s, x], argTypes := #[t, t] })
    (e : TypeId) (i : TypeInfo) (z : Value) (size bytes : Nat) (ht : P.underlying t = some (.slice e)) (hi : P.info? e = some i) (hz : i.zero = some z)
    (hsize : i.size = size) (hby : i.bytes = bytes) (hzs : z.cells.size = size) (hsz : 0 < size)
    (v : Value) (n : Nat) (xs : List Value) (hown : w.ownsRow 0 e size v n xs) (cs : Array Value) (et : TypeId) (B : Nat)
    (hs : a.eval s = v) (hx : a.eval x = .slice (some ⟨B, 0, none⟩) 1 1) (hB : w.heap.size = B) (hcs : cs.toList.length = 1 * size) (h1 : ∀ u ∈ cs.toList, u.oneCell' = true)
    (h63 : n + 1 ≤ maxLen) (hbytes : (n + 1) * bytes ≤ 140737488355328)
    (h : ∀ g cap w', w'.ownsRow 0 e size (.slice (some ⟨g, 0, none⟩) (n + 1) cap) (n + 1) (xs ++ cs.toList) → Grew w w' v (.slice (some ⟨g, 0, none⟩) (n + 1) cap) → g < w'.heap.size →
      wpList P ops Q rest (a.put o.dst (.slice (some ⟨g, 0, none⟩) (n + 1) cap)) w') : wpList P ops Q (o :: rest) a (w.alloc (.cells cs et)) := by
  subst hB
  exact wpList_append1 hgd s x t ho e i z size bytes ht hi hz hsize hby hzs hsz v n xs hown cs et hs hx hcs h1 h63 hbytes h
end

end Go.Proofs.Ytofkamnmgpkehab
