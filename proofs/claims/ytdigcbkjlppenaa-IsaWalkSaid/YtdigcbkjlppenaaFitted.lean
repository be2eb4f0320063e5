import Derived.Test.YtdigcbkjlppenaaEncode
import Derived.Test.YtdigcbkjlppenaaSame
import Derived.Test.YtdigcbkjlppenaaIsaByWord
import Derived.Laws.AppendOwnNone
import Derived.Deep.Cut
namespace Go.Proofs.Ytdigcbkjlppenaa
open Go.RowKit
section
variable {P : Program}
/-- append of a whole slice that may be read (nil, or empty, too). -/
theorem wpList_append_reads {ops : Array Oper} {rest : List Oper} {o : Oper} {a : Act} {w : World} {Q : Exit → Act → World → Prop} (hgd : o.guard = none) (s x : Operand) (t : TypeId)
    (ho : o.op = .call { callee := .builtin .append, args := #[s, x], argTypes := #[t, t] })
    (e : TypeId) (i : TypeInfo) (z : Value) (size bytes : Nat) (ht : P.underlying t = some (.slice e)) (hi : P.info? e = some i) (hz : i.zero = some z)
    (hsize : i.size = size) (hby : i.bytes = bytes) (hzs : z.cells.size = size) (hsz : 0 < size)
    (v : Value) (n : Nat) (xs : List Value) (hs : a.eval s = v) (hown : w.ownsRow 0 e size v n xs)
    (u : Value) (m : Nat) (cs : List Value) (hx : a.eval x = u) (hu : Reads w size u m cs) (h1 : ∀ c ∈ cs, c.oneCell' = true)
    (h63 : n + m ≤ maxLen) (hbytes : (n + m) * bytes ≤ 140737488355328)
    (h : ∀ v' w', w'.ownsRow 0 e size v' (n + m) (xs ++ cs) → Grew w w' v v' → wpList P ops Q rest (a.put o.dst v') w') : wpList P ops Q (o :: rest) a w := by
  obtain ⟨a0, cap, rfl, hl, hmc, hcm, hnil, hp⟩ := hu
  cases a0 with
  | none =>
    obtain rfl := hnil rfl
    obtain rfl : m = 0 := by omega
    obtain rfl : cs = [] := List.eq_nil_of_length_eq_zero (by simpa using hl)
    refine wpList_append_own_none hgd s x t ho 0 e i size ht hi v n xs hs hown hx ?_
    have := h v w (by simpa using hown) (Grew.refl _ _)
    exact this
  | some ad =>
    refine wpList_append_grew hgd s x t ho e i z size bytes ht hi hz hsize hby hzs hsz v n xs hs hown ad m cap cs hx hl ?_ h1 h63 hbytes (fun v' w' h2 h3 _ => h v' w' h2 h3)
    intro j c hj
    have hlt : j < cs.length := (List.getElem?_eq_some_iff.1 hj).1
    obtain ⟨b, off, e, _, hc⟩ := hp (Nat.pos_of_ne_zero (fun e => by subst e; simp at hl; subst hl; simp at hlt))
    cases e
    rw [Addr.add_mid, hc j hlt]; exact hj
/-- 'append(s, x)' of one element, the new block's number a letter with an equation. -/
theorem wpList_append1B {w : World} {ops : Array Oper} {rest : List Oper} {o : Oper} {a : Act} {Q : Exit → Act → World → Prop} (hgd : o.guard = none) (s x : Operand) (t : TypeId)
    (ho : o.op = .call { callee := .builtin .append, args := #[s, x], argTypes := #[t, t] })
    (e : TypeId) (i : TypeInfo) (z : Value) (size bytes : Nat) (ht : P.underlying t = some (.slice e)) (hi : P.info? e = some i) (hz : i.zero = some z)
    (hsize : i.size = size) (hby : i.bytes = bytes) (hzs : z.cells.size = size) (hsz : 0 < size)
    (v : Value) (n : Nat) (xs : List Value) (hown : w.ownsRow 0 e size v n xs) (cs : Array Value) (et : TypeId) (B : Nat)
    (hs : a.eval s = v) (hx : a.eval x = .slice (some ⟨B, 0, none⟩) 1 1) (hB : w.heap.size = B) (hcs : cs.toList.length = 1 * size) (h1 : ∀ u ∈ cs.toList, u.oneCell' = true)
    (h63 : n + 1 ≤ maxLen) (hbytes : (n + 1) * bytes ≤ 140737488355328)
    (h : ∀ g cap w', w'.ownsRow 0 e size (.slice (some ⟨g, 0, none⟩) (n + 1) cap) (n + 1) (xs ++ cs.toList) → Grew w w' v (.slice (some ⟨g, 0, none⟩) (n + 1) cap) → g < w'.heap.size →
      wpList P ops Q rest (a.put o.dst (.slice (some ⟨g, 0, none⟩) (n + 1) cap)) w') : wpList P ops Q (o :: rest) a (w.alloc (.cells cs et)) := by
  subst hB
  exact wpList_append1 hgd s x t ho e i z size bytes ht hi hz hsize hby hzs hsz v n xs hown cs et hs hx hcs h1 h63 hbytes h
end

def fitI (i : Nat × Nat) : Nat × Nat := (1 + i.1 % 59, if mostOf (1 + i.1 % 59) < 4294967295 then i.2 % (mostOf (1 + i.1 % 59) + 1) else i.2)
def fit (l : List (Nat × Nat)) : List (Nat × Nat) := (l.take 16384).map fitI
theorem encI_one (l : List (Nat × Nat)) : ∀ u ∈ encI l, u.oneCell' = true := by
  induction l with
  | nil => intro u h; cases h
  | cons i l ih =>
    intro u h
    simp only [encI, List.mem_cons] at h
    rcases h with rfl | rfl | h
    · rfl
    · rfl
    · exact ih u h
theorem most_le (k : Nat) : mostOf k ≤ 4294967295 := by
  by_cases h : k < 60
  · have : ∀ k < 60, mostOf k ≤ 4294967295 := by decide +kernel
    exact this k h
  · have : rowOf k = ([], 0, 0, 0, 0, 0) := by
      unfold rowOf; rw [List.getD_eq_getElem?_getD, List.getElem?_eq_none (by show 60 ≤ k; omega)]; rfl
    simp [mostOf, this]
theorem word_ne' (k : Nat) (h1 : 1 ≤ k) (h2 : k < 60) : (wordOf k).isEmpty = false := by
  have : ∀ k < 60, 1 ≤ k → (wordOf k).isEmpty = false := by decide +kernel
  exact this k h2 h1
theorem fitI_check (i : Nat × Nat) (h : i.2 < 4294967296) : checkN (fitI i).1 (fitI i).2 = 0 := by
  have h1 : isOp (1 + i.1 % 59) = true := by simp only [isOp, decide_eq_true_eq]; omega
  have h2 := most_le (1 + i.1 % 59)
  have h3 : ¬ mostOf (1 + i.1 % 59) < (fitI i).2 := by
    unfold fitI
    dsimp only
    split
    · have := Nat.mod_lt i.2 (show 0 < mostOf (1 + i.1 % 59) + 1 by omega); omega
    · omega
  unfold checkN
  rw [show (fitI i).1 = 1 + i.1 % 59 from rfl, if_pos h1, if_neg h3]
theorem fitI_lt (i : Nat × Nat) (h : i.2 < 4294967296) : (fitI i).1 < 256 ∧ (fitI i).2 < 4294967296 := by
  refine ⟨by show 1 + i.1 % 59 < 256; omega, ?_⟩
  unfold fitI
  dsimp only
  split
  · have := Nat.mod_le i.2 (mostOf (1 + i.1 % 59) + 1); omega
  · exact h
theorem info36 : (Try.prog.info? 36).map (fun i => (i.zero, i.size, i.bytes)) = some (some (.agg #[.int .u8 0, .int .u32 0]), 2, 8) := by kernel_rfl
theorem run_buildSlice43 (x y : Int) (w : World) : (Instr.buildSlice 43 1 #[(0, .agg #[.int .u8 x, .int .u32 y])]).run Try.prog w = .ok (.slice (some ⟨w.heap.size, 0, none⟩) 1 1) (w.alloc (.cells #[.int .u8 x, .int .u32 y] 36)) := by kernel_rfl
theorem run_build36 (x y : Int) (w : World) : (Instr.build 36 #[(0, .int .u8 x), (1, .int .u32 y)]).run Try.prog w = .ok (.agg #[.int .u8 x, .int .u32 y]) w := by kernel_rfl
theorem fit_succ (l : List (Nat × Nat)) (k : Nat) (hk : k < l.length) : (l.take (k + 1)).map fitI = (l.take k).map fitI ++ [fitI (l.getD k (0, 0))] := by
  rw [List.take_add_one, List.getElem?_eq_getElem hk, List.map_append]
  simp [List.getElem?_eq_getElem hk]

set_option maxRecDepth 100000 in
set_option maxHeartbeats 2000000 in
theorem fitted_any (v : Value) (l : List (Nat × Nat)) (w : World) (hv : Instrs w v l) :
    Calls Try.prog 36 #[v] w fun e w' => ∃ v', e = .returned (.tuple #[v', .bool true]) ∧ w'.ownsRow 0 36 2 v' (fit l).length (encI (fit l)) ∧ Grew w w' (.slice none 0 0) v' := by
  have hlt := hv.lt
  obtain ⟨a, cap, rfl, hlc, hcm, hnil, hp⟩ := hv.opened
  obtain ⟨i0, hi, hz0, hz1, hz2⟩ := info_parts info36
  have hlm : l.length ≤ 9223372036854775807 := by unfold maxLen at hcm; omega
  have hz := zero26
  unfold zeroRow at hz
  have hb43 := run_buildSlice43
  have hb36 := run_build36
  have Hp := Lib.hid hp
  have Hn := Lib.hid hnil
  clear hp hnil hv
  go_enter Try.func36, Try.ntmps36
  go_wp2_with fail
  go_loopw [4, 5] (fun u i wr => ∃ k : Nat, k ≤ l.length ∧ k ≤ 16384 ∧ i = .int .i64 k ∧ wr.ownsRow 0 36 2 u k (encI ((l.take k).map fitI)) ∧ Grew w wr (.slice none 0 0) u) (fun _ i _ => l.length - (intOf i).toNat)
  case atStart => exact ⟨0, by omega, by omega, rfl, World.ownsRow_nil _ _ _ _, Grew.refl _ _⟩
  case round =>
    obtain ⟨k, hk, hk2, rfl, hr, hg⟩ := hrel
    by_cases hlt' : k < l.length ∧ k < 16384
    · obtain ⟨hl1, hl2⟩ := hlt'
      obtain ⟨b, off, rfl, hbl, hc⟩ := Hp.out (by omega)
      obtain ⟨hc1, hc2⟩ := hc k hl1
      have hblr : b < wr.heap.size := Nat.lt_of_lt_of_le hbl hg.1.size
      have hb1 : wr.cell? ⟨b, off + k * 2, none⟩ = some (.int .u8 (l.getD k (0, 0)).1) := ((Grew.bel hg).cell (p := ⟨b, off + k * 2, none⟩) hbl).trans hc1
      have hb2 : wr.cell? ⟨b, off + k * 2 + 1, none⟩ = some (.int .u32 (l.getD k (0, 0)).2) := ((Grew.bel hg).cell (p := ⟨b, off + k * 2 + 1, none⟩) hbl).trans hc2
      obtain ⟨ho, ha⟩ := hlt k
      have hfs := fit_succ l k hl1
      generalize l.getD k (0, 0) = ins at *
      obtain ⟨o, x⟩ := ins
      have Hfs := hfs
      clear hfs hc hc1 hc2 hlt
      simp only at *
      have hq0 : (0 : Int) < (l.length : Int) := by omega
      have hinf := fun W => info_any (1 + o % 59) (by omega) W
      have hop : isOp (1 + o % 59) = true := by simp only [isOp, decide_eq_true_eq]; omega
      have hwne := word_ne' (1 + o % 59) (by omega) (by omega)
      rw [hop] at hinf
      unfold rowVal rowCells at hinf
      have hml := most_le (1 + o % 59)
      clear hop
      have hcast : ((1 + o % 59 : Nat) : Int) = 1 + (o : Int) % 59 := by omega
      rw [hcast] at hinf
      have e1 : fitI (o, x) = (1 + o % 59, if mostOf (1 + o % 59) < 4294967295 then x % (mostOf (1 + o % 59) + 1) else x) := rfl
      rw [e1] at Hfs
      clear e1
      generalize mostOf (1 + o % 59) = M at *
      generalize wordOf (1 + o % 59) = W5 at *
      generalize widthOf (1 + o % 59) = wd at *
      generalize takesOf (1 + o % 59) = tk at *
      generalize givesOf (1 + o % 59) = gv at *
      generalize kindOf (1 + o % 59) = kd at *
      have Hcast := Lib.hid hcast
      clear hcast
      have hq3 : (0 : Int) ≤ (o : Int) % 59 := by omega
      have hq4 : (o : Int) % 59 < 59 := by omega
      have Hinf := Lib.hid hinf
      clear hinf
      have hfin : (if M < 4294967295 then x % (M + 1) else x) = (if M < 4294967295 then x % (M + 1) else x) := rfl
      by_cases hm : M < 4294967295
      · have Hm := Lib.hid hm
        rw [if_pos hm] at Hfs
        have HF := Lib.hid Hfs
        have Hw := Lib.hid hwne
        clear hfin Hfs hwne hm
        go_wp2_with fail
        refine (Hinf.out _).mono ?_
        rintro e w1 ⟨rfl, hb⟩
        clear Hinf
        have hwne := Hw.out
        have hd : decide ((M : Int) < 4294967295) = true := decide_eq_true (by have := Hm.out; omega)
        have hM : (M : Int) ≤ 4294967294 := by have := Hm.out; omega
        have hk1 : w1.cell? ⟨b, off + k * 2 + 1, none⟩ = some (.int .u32 x) := (hb.cell (p := ⟨b, off + k * 2 + 1, none⟩) hblr).trans hb2
        have hblr1 : b < w1.heap.size := Nat.lt_of_lt_of_le hblr hb.size
        have hr1 := fun cs => own_below hr (Bel.al hb (.cells cs 26))
        have hg1 := fun cs => hg.then (Bel.al hb (.cells cs 26))
        have Hr1 := Lib.hid hr1
        have Hg1 := Lib.hid hg1
        clear hr hg hb1 hb2 hr1 hg1 hml ha
        go_wp2_with ((with_reducible refine wpList_append1B (o := ⟨some 59, .call { callee := .builtin .append, args := #[.tmp 54, .tmp 58], argTypes := #[43, 43] }, _, _, _, none⟩) rfl _ _ 43 rfl 36 i0 (.agg #[.int .u8 0, .int .u32 0]) 2 8 Try.underlying43 hi hz0 hz1 hz2 ?_ ?_ _ _ _ (Hr1.out _) _ _ (w1.heap.size + 1) ?_ ?_ ?_ ?_ ?_ ?_ ?_ ?_); rfl; decide; rfl; rfl; exact World.size_alloc _ _; rfl; (simp [Value.oneCell']); (unfold maxLen; omega); omega; intro g c w2 hr2 hg2 hl2)
        go_roundw
        case rel => exact ⟨k + 1, by omega, by omega, by go_num, by
          rw [HF.out, encI_append]
          have e1 : encI [(1 + o % 59, x % (M + 1))] = #[Value.int IntKind.u8 (1 + (o : Int) % 59), Value.int IntKind.u32 ((x : Int) % ((M : Int) + 1))].toList := by simp [encI]
          rw [e1]; exact hr2, (Hg1.out _).trans hg2⟩
        case measure => simp [intOf]; omega
      · have Hm := Lib.hid hm
        rw [if_neg hm] at Hfs
        have HF := Lib.hid Hfs
        have Hw := Lib.hid hwne
        clear hfin Hfs hwne hm
        go_wp2_with fail
        refine (Hinf.out _).mono ?_
        rintro e w1 ⟨rfl, hb⟩
        clear Hinf
        have hwne := Hw.out
        have hd : decide ((M : Int) < 4294967295) = false := decide_eq_false (by have := Hm.out; omega)
        have hk1 : w1.cell? ⟨b, off + k * 2 + 1, none⟩ = some (.int .u32 x) := (hb.cell (p := ⟨b, off + k * 2 + 1, none⟩) hblr).trans hb2
        have hblr1 : b < w1.heap.size := Nat.lt_of_lt_of_le hblr hb.size
        have hr1 := fun cs => own_below hr (Bel.al hb (.cells cs 26))
        have hg1 := fun cs => hg.then (Bel.al hb (.cells cs 26))
        have Hr1 := Lib.hid hr1
        have Hg1 := Lib.hid hg1
        clear hr hg hb1 hb2 hr1 hg1 hml ha
        go_wp2_with ((with_reducible refine wpList_append1B (o := ⟨some 59, .call { callee := .builtin .append, args := #[.tmp 54, .tmp 58], argTypes := #[43, 43] }, _, _, _, none⟩) rfl _ _ 43 rfl 36 i0 (.agg #[.int .u8 0, .int .u32 0]) 2 8 Try.underlying43 hi hz0 hz1 hz2 ?_ ?_ _ _ _ (Hr1.out _) _ _ (w1.heap.size + 1) ?_ ?_ ?_ ?_ ?_ ?_ ?_ ?_); rfl; decide; rfl; rfl; exact World.size_alloc _ _; rfl; (simp [Value.oneCell']); (unfold maxLen; omega); omega; intro g c w2 hr2 hg2 hl2)
        go_roundw
        case rel => exact ⟨k + 1, by omega, by omega, by go_num, by
          rw [HF.out, encI_append]
          have e1 : encI [(1 + o % 59, x)] = #[Value.int IntKind.u8 (1 + (o : Int) % 59), Value.int IntKind.u32 x].toList := by simp [encI]
          rw [e1]; exact hr2, (Hg1.out _).trans hg2⟩
        case measure => simp [intOf]; omega
    · have he : fit l = (l.take k).map fitI ∧ k = (fit l).length := by
        unfold fit
        by_cases h : k < l.length
        · obtain rfl : k = 16384 := by omega
          exact ⟨rfl, by rw [List.length_map, List.length_take]; omega⟩
        · obtain rfl : k = l.length := by omega
          rw [List.take_of_length_le (by omega), List.take_of_length_le (by omega)]; exact ⟨rfl, by simp⟩
      rw [← he.1] at hr
      have hfin : wr.ownsRow 0 36 2 u4 (fit l).length (encI (fit l)) := by rw [← he.2]; exact hr
      have Hfin := Lib.hid hfin
      clear he hfin hr
      by_cases h : k < l.length
      · have h2 : ¬ ((k : Int) < 16384) := by omega
        go_wp2
        go_ret2
        exact ⟨_, rfl, Hfin.out, hg⟩
      · have h2 : ¬ ((k : Int) < (l.length : Int)) := by omega
        go_wp2
        go_ret2
        exact ⟨_, rfl, Hfin.out, hg⟩
end Go.Proofs.Ytdigcbkjlppenaa
