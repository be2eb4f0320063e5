import Derived.Test.YtdigcbkjlppenaaWalkEnc
import Derived.Test.YtdigcbkjlppenaaEncodeRef
import Derived.Test.YtdigcbkjlppenaaBackW
import Derived.Deep.RegionHeld3
/- Places, and the reference's. -/
namespace Go.Proofs.Ytdigcbkjlppenaa
open Go.RowKit
/-- Where the first k instructions begin, and where the last of them ends. -/
def startsTo (l : List (Nat × Nat)) (k : Nat) : List Nat := (List.range (k + 1)).map (fun j => (encode (l.take j)).length)
theorem startsTo_zero (l : List (Nat × Nat)) : startsTo l 0 = [0] := by simp [startsTo, encode]
theorem startsTo_succ (l : List (Nat × Nat)) (k : Nat) : startsTo l (k + 1) = startsTo l k ++ [(encode (l.take (k + 1))).length] := by
  unfold startsTo
  rw [List.range_succ (n := k + 1), List.map_append]
  rfl
theorem startsTo_length (l : List (Nat × Nat)) (k : Nat) : (startsTo l k).length = k + 1 := by simp [startsTo]
theorem startsTo_last (l : List (Nat × Nat)) (k : Nat) : (startsTo l k).getD k 0 = (encode (l.take k)).length := by
  simp [startsTo, List.getD_eq_getElem?_getD]
def plRes (l : List (Nat × Nat)) : List Nat × Nat := if (encRes l).2.2 = 0 then (startsTo l l.length, 0) else ([], (encRes l).2.2)
theorem encRes_zero {l : List (Nat × Nat)} (h : (encRes l).2.2 = 0) : l.length ≤ 16384 ∧ ∀ k, k < l.length → errAt l k = 0 := by
  unfold encRes at h
  split at h
  · cases h
  · rename_i hm
    refine ⟨by omega, fun k hk => ?_⟩
    cases hb : badAt l with
    | some j =>
      rw [hb] at h
      have := List.find?_some hb
      simp at this
      exact absurd h this
    | none =>
      have := List.find?_eq_none.1 hb k (by rw [List.mem_range'_1]; omega)
      simpa using this
def PlPost (l : List (Nat × Nat)) (w : World) (e : Ending) (w' : World) : Prop :=
  ∃ v, e = .returned (.tuple #[v, .int .i64 (plRes l).2]) ∧ w'.ownsRow 0 3 1 v (plRes l).1.length (encN .i64 (plRes l).1) ∧ Grew w w' (.slice none 0 0) v
theorem one_cells (k : IntKind) (x : Int) : ∀ u ∈ [Value.int k x], u.oneCell' = true := fun u h => by
  obtain rfl : u = Value.int k x := by simpa using h
  rfl
set_option maxRecDepth 100000 in
theorem run_buildSlice42 (x : Int) (w : World) : (Instr.buildSlice 42 1 #[(0, .int .i64 x)]).run Try.prog w = .ok (.slice (some ⟨w.heap.size, 0, none⟩) 1 1) (w.alloc (.cells #[.int .i64 x] 3)) := by kernel_rfl
theorem own_new1 (w : World) (x : Int) : (w.alloc (.cells #[.int .i64 x] 3)).ownsRow 0 3 1 (.slice (some ⟨w.heap.size, 0, none⟩) 1 1) 1 [.int .i64 x] :=
  ⟨rfl, .inr ⟨w.heap.size, 1, #[.int .i64 x], rfl, Nat.zero_le _, World.alloc_heap_new w _, by omega, by decide, rfl, rfl⟩⟩
section
variable {P : Program}
/-- append to a row that is not nil: what the row held lies where it lay, too. -/
theorem append_keeps {w : World} (t ty : TypeId) (e : TypeId) (i : TypeInfo) (z : Value) (size bytes : Nat) (ht : P.underlying t = some (.slice e)) (hi : P.info? e = some i) (hz : i.zero = some z)
    (hsize : i.size = size) (hby : i.bytes = bytes) (hzs : z.cells.size = size) (hsz : 0 < size)
    (g n cap : Nat) (xs : List Value) (hown : w.ownsRow 0 e size (.slice (some ⟨g, 0, none⟩) n cap) n xs) (hx0 : 0 < n)
    (ad : Addr) (m c : Nat) (news : List Value) (hl : news.length = m * size) (hnews : ∀ j u, news[j]? = some u → w.cell? (ad.add j) = some u) (h1 : ∀ u ∈ news, u.oneCell' = true)
    (h63 : n + m ≤ maxLen) (hbytes : (n + m) * bytes ≤ 140737488355328) :
    ∃ v' w', (Builtin.append_ #[t, t] ty #[.slice (some ⟨g, 0, none⟩) n cap, .slice (some ad) m c]).run P w = .ok v' w' ∧ w'.ownsRow 0 e size v' (n + m) (xs ++ news) ∧ Grew w w' (.slice (some ⟨g, 0, none⟩) n cap) v' ∧
      (∀ j, j < xs.length → w'.cell? ⟨g, j, none⟩ = w.cell? ⟨g, j, none⟩) := by
  obtain ⟨g', cap', hv, _, _, hgl, hcl⟩ := own_form hown hx0
  cases hv
  by_cases hroom : n + m ≤ cap
  · obtain ⟨w', hr, ho, hg⟩ := run_append_fits (P := P) w 0 t ty e i size ht hi hsize g n cap xs hown ad m c news hl hnews h1 hroom
    obtain ⟨g2, cap2, hv2, _, _, _, hc2⟩ := own_form ho (by omega)
    cases hv2
    refine ⟨_, w', hr, ho, ⟨hg, fun q h => .inl h⟩, fun j hj => ?_⟩
    rw [hc2 j (by rw [List.length_append]; omega), hcl j hj, List.getElem?_append_left hj]
  · obtain ⟨v', w', hr, ho, hg, _, hb⟩ := run_append_own_at (P := P) w 0 t ty e i z size bytes ht hi hz hsize hby hzs hsz _ n xs hown ad m c news hl hnews h1 h63 hbytes (Nat.zero_le _)
    have h63' : n + m ≤ 9223372036854775807 := by unfold maxLen at h63; omega
    subst hsize
    subst hby
    have hr2 := run_append_grow (P := P) w t ty e i z ht hi hz ⟨g, 0, none⟩ n cap xs hown.1 (hown.cells (g := g) rfl) ad m c news hl hnews (by omega) (by omega) (growslice_fits (by omega) hbytes)
    rw [hr] at hr2
    injection hr2 with e1 e2
    refine ⟨v', w', hr, ho, ⟨hg, fun q h => ?_⟩, fun j _ => ?_⟩
    · rcases hb with hb | hb
      · exact .inl (hb ▸ h)
      · rw [hb] at h; cases h; exact .inr (Nat.le_refl _)
    · rw [e2]
      exact World.cell?_of_block (heap_alloc_old w.drew _ hgl)
theorem step_append_keeps {w : World} {ops : Array Oper} {o : Oper} {a : Act} {K : Act → World → Prop} {Q : Exit → Act → World → Prop} {E : Prop} (hgd : o.guard = none) (s x : Operand) (t : TypeId)
    (ho : o.op = .call { callee := .builtin .append, args := #[s, x], argTypes := #[t, t] })
    (e : TypeId) (i : TypeInfo) (z : Value) (size bytes : Nat) (ht : P.underlying t = some (.slice e)) (hi : P.info? e = some i) (hz : i.zero = some z)
    (hsize : i.size = size) (hby : i.bytes = bytes) (hzs : z.cells.size = size) (hsz : 0 < size)
    (g n cap : Nat) (xs : List Value) (hs : a.eval s = .slice (some ⟨g, 0, none⟩) n cap) (hown : w.ownsRow 0 e size (.slice (some ⟨g, 0, none⟩) n cap) n xs) (hx0 : 0 < n)
    (ad : Addr) (m c : Nat) (news : List Value) (hx : a.eval x = .slice (some ad) m c) (hl : news.length = m * size) (hnews : ∀ j u, news[j]? = some u → w.cell? (ad.add j) = some u) (h1 : ∀ u ∈ news, u.oneCell' = true)
    (h63 : n + m ≤ maxLen) (hbytes : (n + m) * bytes ≤ 140737488355328)
    (h : ∀ v' w', w'.ownsRow 0 e size v' (n + m) (xs ++ news) → Grew w w' (.slice (some ⟨g, 0, none⟩) n cap) v' → (∀ j, j < xs.length → w'.cell? ⟨g, j, none⟩ = w.cell? ⟨g, j, none⟩) → K (a.put o.dst v') w') :
    if Region.wanted o (yielded ops a.tmps) = true then Oper.wp P o a w K Q else E := by
  have hw : Region.wanted o (yielded ops a.tmps) = true := by simp [Region.wanted, hgd]
  rw [if_pos hw]
  obtain ⟨v', w', hr, h2, h3, h4⟩ := append_keeps (P := P) t o.type e i z size bytes ht hi hz hsize hby hzs hsz g n cap xs hown hx0 ad m c news hl hnews h1 h63 hbytes
  unfold Oper.wp execOp
  simp only [ho, resolve, invoke, builtin, Sem.run_bind, Sem.run_pure, Result.andThen_ok, List.map_toArray, List.map_cons, List.map_nil, hs, hx, hr]
  exact h v' w' h2 h3 h4
end
set_option maxRecDepth 100000 in
set_option maxHeartbeats 4000000 in
theorem refplaces_any (v : Value) (l : List (Nat × Nat)) (w : World) (hv : Instrs w v l) : Calls Try.prog 40 #[v] w (PlPost l w) := by
  have hlt := hv.lt
  have hE := refencode_any v l w hv
  obtain ⟨i0, hi, hz0, hz1, hz2⟩ := info_parts info3
  have hb42 := run_buildSlice42
  have Hop := Lib.hid (fun W hb => (hv.below (w' := W) hb).opened)
  obtain ⟨a, cap, rfl, hlc, hcm, hnil, hp⟩ := hv.opened
  clear hnil hp hv
  have hpl : plRes l = if (encRes l).2.2 = 0 then (startsTo l l.length, 0) else ([], (encRes l).2.2) := rfl
  have Hpl := Lib.hid hpl
  have hez := Lib.hid (fun h => @encRes_zero l h)
  clear hpl
  have Hlt := Lib.hid hlt
  clear hlt
  unfold EncPost at hE
  generalize encRes l = r at *
  obtain ⟨bs, p, er⟩ := r
  simp only at *
  go_enter Try.func40, Try.ntmps40
  go_wp2_with fail
  refine hE.mono ?_
  rintro e w1 ⟨u, rfl, -, hg1, -⟩
  have hb1 := hg1.bel
  clear hE hg1
  by_cases he : er = 0
  · subst he
    obtain ⟨hl, hall⟩ := hez.out rfl
    have Hall := Lib.hid hall
    clear hall
    go_wp2
    go_loopw [7, 8, 9] (fun o q i wr => ∃ (k : Nat), k ≤ l.length ∧ i = .int .i64 k ∧ q = .int .i64 ((encode (l.take k)).length : Nat) ∧ wr.ownsRow 0 3 1 o (k + 1) (encN .i64 (startsTo l k)) ∧ Grew w1 wr (.slice none 0 0) o) (fun _ _ i _ => l.length - (intOf i).toNat)
    case atStart => exact ⟨0, by omega, rfl, rfl, own_new1 _ _, below_grownBy (Bel.new _ _) _, fun g e => by cases e; exact .inr (Nat.le_refl _)⟩
    case round =>
      obtain ⟨k, hk, rfl, rfl, ho, hg⟩ := hrel
      by_cases hlt' : k < l.length
      · obtain ⟨a', cap', ev, h1, h2, h3, h4⟩ := Hop.out wr (Bel.tr hb1 hg.bel)
        simp only [Value.slice.injEq] at ev
        obtain ⟨rfl, -, rfl⟩ := ev
        obtain ⟨b, off, eb, hbl, hc⟩ := h4 (by omega)
        subst eb
        obtain ⟨hc1, hc2⟩ := hc k hlt'
        obtain ⟨hop, harg⟩ := Hlt.out k
        have hsz := fun W => refsize_any (l.getD k (0, 0)).1 (l.getD k (0, 0)).2 hop W
        have hsn := encode_snoc_len l k hlt'
        have hss := startsTo_succ l k
        have hln2 := encode_len (l.take k)
        rw [List.length_take] at hln2
        have hcc : checkN (l.getD k (0, 0)).1 (l.getD k (0, 0)).2 = 0 := Hall.out k hlt'
        have hwd := width_le (l.getD k (0, 0)).1
        rw [hsn] at hss
        generalize l.getD k (0, 0) = ins at *
        obtain ⟨oo, x'⟩ := ins
        simp only at *
        unfold sizeN at hsz
        rw [if_pos hcc] at hsz
        have Hsn := Lib.hid hsn
        have Hss := Lib.hid hss
        have Ho := Lib.hid ho
        have Hg := Lib.hid hg
        clear hsn hss hc h4 hcc h1 h2 h3 ho hg
        generalize (encode (l.take k)).length = q at *
        generalize widthOf oo = wd at *
        have hq : (q : Int) + ((1 + wd : Nat) : Int) ≤ 9223372036854775807 := by omega
        go_wp2_with fail
        refine (hsz _).mono ?_
        rintro e w4 ⟨rfl, hb4⟩
        have ho4 := own_below Ho.out hb4
        have hg4 := Hg.out.then hb4
        go_wp2_with ((with_reducible refine wpList_append1 (o := ⟨some 36, .call { callee := .builtin .append, args := #[.tmp 33, .tmp 35], argTypes := #[42, 42] }, _, _, _, none⟩) rfl _ _ 42 rfl 3 i0 (.int .i64 0) 1 8 Try.underlying42 hi hz0 hz1 hz2 ?_ ?_ _ _ _ ho4 _ _ ?_ ?_ ?_ ?_ ?_ ?_ ?_); rfl; decide; rfl; rfl; rfl; (simp [Value.oneCell']); (unfold maxLen; omega); omega; intro g5 c5 w5 o5 g5' hl5)
        go_roundw
        case rel => exact ⟨k + 1, by omega, by go_num, by rw [Hsn.out]; go_num, by rw [Hss.out, encN_append]; exact o5, hg4.trans g5'⟩
        case measure => simp [intOf]; omega
      · obtain rfl : k = l.length := by omega
        have Ho := Lib.hid ho
        clear ho
        go_wp2
        refine bodyPost_ret (v := .tuple #[u7, .int .i64 0]) (by simp [results, Try.results40, go_sem]) rfl ?_
        have hp := Hpl.out
        rw [if_pos trivial] at hp
        unfold PlPost
        rw [hp]
        exact ⟨_, rfl, by show World.ownsRow _ 0 3 1 _ (startsTo l l.length).length _; rw [startsTo_length]; exact Ho.out, Grew.after hb1 hg⟩
  · have hne : ((er : Int) != 0) = true := by simp; exact he
    go_wp2
    refine bodyPost_ret (v := .tuple #[.slice none 0 0, .int .i64 er]) (by simp [results, Try.results40, go_sem]) rfl ?_
    have hp := Hpl.out
    rw [if_neg he] at hp
    unfold PlPost
    rw [hp]
    exact ⟨_, rfl, World.ownsRow_nil _ _ _ _, below_grownBy hb1 _, fun g e => by cases e⟩
set_option maxRecDepth 100000 in
set_option maxHeartbeats 4000000 in
theorem places_any (v : Value) (l : List (Nat × Nat)) (w : World) (hv : Instrs w v l) : Calls Try.prog 39 #[v] w (PlPost l w) := by
  have hlt := hv.lt
  have hE := encode_any v l w hv
  obtain ⟨i0, hi, hz0, hz1, hz2⟩ := info_parts info3
  have hb42 := run_buildSlice42
  have Hop := Lib.hid (fun W hb => (hv.below (w' := W) hb).opened)
  obtain ⟨a, cap, rfl, hlc, hcm, hnil, hp⟩ := hv.opened
  clear hnil hp hv
  have hpl : plRes l = if (encRes l).2.2 = 0 then (startsTo l l.length, 0) else ([], (encRes l).2.2) := rfl
  have Hpl := Lib.hid hpl
  have hez := Lib.hid (fun h => @encRes_zero l h)
  clear hpl
  have Hlt := Lib.hid hlt
  clear hlt
  unfold EncPost at hE
  generalize encRes l = r at *
  obtain ⟨bs, p, er⟩ := r
  simp only at *
  go_enter Try.func39, Try.ntmps39
  go_wp2_with fail
  refine hE.mono ?_
  rintro e w1 ⟨u, rfl, -, hg1, -⟩
  have hb1 := hg1.bel
  clear hE hg1
  by_cases he : er = 0
  · subst he
    obtain ⟨hl, hall⟩ := hez.out rfl
    have Hall := Lib.hid hall
    clear hall
    go_wp2
    go_loopw [7, 22] (fun o i wr => ∃ (k : Nat), k ≤ l.length ∧ i = .int .i64 k ∧ wr.ownsRow 0 3 1 o (k + 1) (encN .i64 (startsTo l k)) ∧ Grew w1 wr (.slice none 0 0) o) (fun _ i _ => l.length - (intOf i).toNat)
    case atStart => exact ⟨0, by omega, rfl, own_new1 _ _, below_grownBy (Bel.new _ _) _, fun g e => by cases e; exact .inr (Nat.le_refl _)⟩
    case round =>
      obtain ⟨k, hk, rfl, ho, hg⟩ := hrel
      by_cases hlt' : k < l.length
      · obtain ⟨a', cap', ev, h1, h2, h3, h4⟩ := Hop.out wr (Bel.tr hb1 hg.bel)
        simp only [Value.slice.injEq] at ev
        obtain ⟨rfl, -, rfl⟩ := ev
        obtain ⟨b, off, eb, hbl, hc⟩ := h4 (by omega)
        subst eb
        obtain ⟨hc1, hc2⟩ := hc k hlt'
        obtain ⟨hop, harg⟩ := Hlt.out k
        have hsz := fun W => size_any (l.getD k (0, 0)).1 (l.getD k (0, 0)).2 hop W
        have hsn := encode_snoc_len l k hlt'
        have hss := startsTo_succ l k
        have hln2 := encode_len (l.take k)
        rw [List.length_take] at hln2
        have hcc : checkN (l.getD k (0, 0)).1 (l.getD k (0, 0)).2 = 0 := Hall.out k hlt'
        have hwd := width_le (l.getD k (0, 0)).1
        rw [hsn] at hss
        generalize l.getD k (0, 0) = ins at *
        obtain ⟨oo, x'⟩ := ins
        simp only at *
        unfold sizeN at hsz
        rw [if_pos hcc] at hsz
        have Hsn := Lib.hid hsn
        have Hss := Lib.hid hss
        obtain ⟨g0, c0, rfl, hc0, hm0, hg0, hcl⟩ := own_form ho (by omega)
        have hlast : wr.cell? ⟨g0, k, none⟩ = some (.int .i64 ((encode (l.take k)).length : Nat)) := by
          rw [hcl k (by rw [encN_length, startsTo_length]; omega), encN_at _ _ _ (by rw [startsTo_length]; omega), startsTo_last]
        have Hsn := Lib.hid hsn
        have Hss := Lib.hid hss
        have Ho := Lib.hid ho
        have Hg := Lib.hid hg
        clear hsn hss hc h4 hcc h1 h2 h3 hcl ho hg
        generalize (encode (l.take k)).length = q at *
        generalize widthOf oo = wd at *
        have hq : (q : Int) + ((1 + wd : Nat) : Int) ≤ 9223372036854775807 := by omega
        have hki : (k : Int) < (k : Int) + 1 := by omega
        have hb63 : k + 1 + 1 ≤ maxLen := by unfold maxLen; omega
        have hb47 : (k + 1 + 1) * 8 ≤ 140737488355328 := by omega
        have hwr : IntKind.i64.wrap ((q : Int) + ((1 + wd : Nat) : Int)) = (q : Int) + ((1 + wd : Nat) : Int) := IntWalk.i64_in _ (by omega)
        have keep : ∀ W W' : World, Below W.heap.size W W' → (W.cell? ⟨wr.heap.size, 0, none⟩ = some (.int .u8 oo) ∧ W.cell? ⟨wr.heap.size, 1, none⟩ = some (.int .u32 x') ∧ W.cell? ⟨g0, k, none⟩ = some (.int .i64 q) ∧ wr.heap.size < W.heap.size) →
            (W'.cell? ⟨wr.heap.size, 0, none⟩ = some (.int .u8 oo) ∧ W'.cell? ⟨wr.heap.size, 1, none⟩ = some (.int .u32 x') ∧ W'.cell? ⟨g0, k, none⟩ = some (.int .i64 q) ∧ wr.heap.size < W'.heap.size) := fun W W' hb ⟨e1, e2, e3, e4⟩ =>
          ⟨(hb.cell (p := ⟨wr.heap.size, 0, none⟩) e4).trans e1, (hb.cell (p := ⟨wr.heap.size, 1, none⟩) e4).trans e2, (hb.cell (p := ⟨g0, k, none⟩) (Nat.lt_trans hg0 e4)).trans e3, Nat.lt_of_lt_of_le e4 hb.size⟩
        have hszz := fun W hS => (hsz W).mono fun e w' (hh : _ ∧ _) => And.intro hh (keep W w' hh.2 hS)
        have h00 : (((wr.alloc (.cells #[.int .u8 oo, .int .u32 x'] 36)).drew).cell? ⟨wr.heap.size, 0, none⟩ = some (.int .u8 oo) ∧ ((wr.alloc (.cells #[.int .u8 oo, .int .u32 x'] 36)).drew).cell? ⟨wr.heap.size, 1, none⟩ = some (.int .u32 x') ∧ ((wr.alloc (.cells #[.int .u8 oo, .int .u32 x'] 36)).drew).cell? ⟨g0, k, none⟩ = some (.int .i64 q) ∧ wr.heap.size < ((wr.alloc (.cells #[.int .u8 oo, .int .u32 x'] 36)).drew).heap.size) :=
          ⟨by simp [go_sem], by simp [go_sem], ((Bel.dr (Bel.new wr (.cells #[.int .u8 oo, .int .u32 x'] 36))).cell (p := ⟨g0, k, none⟩) hg0).trans hlast, by show wr.heap.size < (wr.alloc _).heap.size; simp⟩
        have keepA : ∀ (W W' : World) (n c : Nat) (v' : Value), Grew W W' (.slice (some ⟨g0, 0, none⟩) n c) v' → (∀ j, j < (encN .i64 (startsTo l k)).length → W'.cell? ⟨g0, j, none⟩ = W.cell? ⟨g0, j, none⟩) → (W.cell? ⟨wr.heap.size, 0, none⟩ = some (.int .u8 oo) ∧ W.cell? ⟨wr.heap.size, 1, none⟩ = some (.int .u32 x') ∧ W.cell? ⟨g0, k, none⟩ = some (.int .i64 q) ∧ wr.heap.size < W.heap.size) →
            (W'.cell? ⟨wr.heap.size, 0, none⟩ = some (.int .u8 oo) ∧ W'.cell? ⟨wr.heap.size, 1, none⟩ = some (.int .u32 x') ∧ W'.cell? ⟨g0, k, none⟩ = some (.int .i64 q) ∧ wr.heap.size < W'.heap.size) := fun W W' n c v' hg hkk ⟨e1, e2, e3, e4⟩ => by
          have hne : ∀ j, (some (⟨wr.heap.size, j, none⟩ : Addr).block ≠ (Value.slice (some ⟨g0, 0, none⟩) n c).ownBlock) := fun j e => by simp [Value.ownBlock] at e; omega
          exact ⟨(hg.1.cell_far ⟨wr.heap.size, 0, none⟩ e4 (hne 0)).trans e1, (hg.1.cell_far ⟨wr.heap.size, 1, none⟩ e4 (hne 1)).trans e2, (hkk k (by rw [encN_length, startsTo_length]; omega)).trans e3, Nat.lt_of_lt_of_le e4 hg.1.size⟩
        have KeepA := Lib.hid keepA
        clear keepA
        have H00 := Lib.hid h00
        have Keep := Lib.hid keep
        have Hszz := Lib.hid hszz
        clear h00 keep hszz hsz
        go_wp2
        go_region_held3 (fun w' => w'.cell? ⟨wr.heap.size, 0, none⟩ = some (.int .u8 oo) ∧ w'.cell? ⟨wr.heap.size, 1, none⟩ = some (.int .u32 x') ∧ w'.cell? ⟨g0, k, none⟩ = some (.int .i64 q) ∧ wr.heap.size < w'.heap.size)
          (first | assumption | exact KeepA.out _ _ _ _ _ hg3 hk3 (by assumption) | exact Keep.out _ _ (Bel.new _ _) (by assumption) | exact H00.out)
          (first | (refine step_append_keeps rfl (.tmp 27) (.tmp 35) 42 rfl 3 i0 (.int .i64 0) 1 8 Try.underlying42 hi hz0 hz1 hz2 rfl Nat.one_pos _ _ _ _ rfl (own_below (own_below (own_below Ho.out (Bel.dr (Bel.new _ _))) hbs) (Bel.new _ _)) (Nat.succ_pos _) ⟨_, 0, none⟩ 1 1 [_] rfl rfl (news_new _ #[_] 3) ?_ ?_ ?_ ?_; exact one_cells _ _; exact hb63; exact hb47; intro v3 w3 hr3 hg3 hk3) | (go_at_call 23; refine (Hszz.out _ ?_).mono ?_; assumption; rintro e w' ⟨⟨rfl, hbs⟩, hS2⟩))
        have hwr2 : IntKind.i64.wrap ((q : Int) + (1 + (wd : Int))) = ((q + (1 + wd) : Nat) : Int) := by rw [IntWalk.i64_in _ (by omega)]; omega
        rw [hwr2] at hr3
        have hall := Lib.hid ((Hg.out.then (Bel.al (Bel.tr (Bel.dr (Bel.new _ _)) hbs) _)).trans hg3)
        have Hr3 := Lib.hid hr3
        clear hr3 hg3 hk3
        go_wp2
        go_roundw
        case rel => exact ⟨k + 1, by omega, by go_num, by rw [Hss.out, encN_append]; exact Hr3.out, hall.out⟩
        case measure => simp [intOf]; omega
      · obtain rfl : k = l.length := by omega
        have Ho := Lib.hid ho
        clear ho
        go_wp2
        refine bodyPost_ret (v := .tuple #[u7, .int .i64 0]) (by simp [results, Try.results39, go_sem]) rfl ?_
        have hp := Hpl.out
        rw [if_pos trivial] at hp
        unfold PlPost
        rw [hp]
        exact ⟨_, rfl, by show World.ownsRow _ 0 3 1 _ (startsTo l l.length).length _; rw [startsTo_length]; exact Ho.out, Grew.after hb1 hg⟩
  · have hne : ((er : Int) != 0) = true := by simp; exact he
    go_wp2
    refine bodyPost_ret (v := .tuple #[.slice none 0 0, .int .i64 er]) (by simp [results, Try.results39, go_sem]) rfl ?_
    have hp := Hpl.out
    rw [if_neg he] at hp
    unfold PlPost
    rw [hp]
    exact ⟨_, rfl, World.ownsRow_nil _ _ _ _, below_grownBy hb1 _, fun g e => by cases e⟩
end Go.Proofs.Ytdigcbkjlppenaa
