import Derived.Test.YtdigcbkjlppenaaRange
import Derived.Shelf.RegionOpen
/- isa.Decode and the reference's. -/
namespace Go.Proofs.Ytdigcbkjlppenaa
open Go.RowKit
attribute [local go_sem] Oper.semAt_some
theorem walkF_len (l : List Nat) : ∀ n p, (walkF l n p).1.length ≤ n := by
  intro n
  induction n with
  | zero => intro p; unfold walkF; split <;> simp
  | succ n ih =>
    intro p
    unfold walkF
    split
    · split
      · simpa using ih _
      · simp
    · simp
theorem walk_len (l : List Nat) : (walk l).1.length ≤ 16384 := walkF_len l _ _
/-- What decoding bytes comes to. -/
def decRes (l : List Nat) : List (Nat × Nat) × Nat × Nat := if (walk l).2.2 = 0 then (instrs (walk l).1, 0, 0) else ([], (walk l).2.1, (walk l).2.2)
def DecPost (l : List Nat) (w : World) (e : Ending) (w' : World) : Prop :=
  ∃ vc, e = .returned (.tuple #[vc, .int .i64 (decRes l).2.1, .int .i64 (decRes l).2.2]) ∧ w'.ownsRow 0 36 2 vc (decRes l).1.length (encI (decRes l).1) ∧ Below w.heap.size w w' ∧ Grew w w' (.slice none 0 0) vc
def encW (x : Nat × (Nat × Nat)) : Array Value := #[.int .i64 x.1, instrVal x.2]
def IterK (bx ex fe : Nat) (lbe : Array Value) (v : Value) (bs : List Nat) (n : Nat) (Fin : World → World → Prop) (A : World) : Prop :=
  A.cell? ⟨bx, 0, none⟩ = some v ∧ A.cell? ⟨ex, 0, none⟩ = some (.func (.func fe) #[] lbe) ∧ Bytes A v bs ∧
    CallsIn Fence.wide (n - 1) Try.prog fe (#[.int .i64 (walk bs).2.1, .int .i64 (walk bs).2.2] ++ lbe) A fun e W' => (∃ u, e = .returned u) ∧ Fin A W'
theorem through_seq (n : Nat) (hn : 3 ≤ n) (bx ex fe : Nat) (lbe : Array Value) (v : Value) (bs : List Nat) (Fin : World → World → Prop)
    (hent : ∀ args w, (callFunc fe args).run Try.prog w = .ok (.enter fe args) w) :
    SeqTo Try.prog n 58 #[.pointer (some ⟨bx, 0, none⟩), .pointer (some ⟨ex, 0, none⟩)] encW (walk bs).1 (IterK bx ex fe lbe v bs n Fin) Fin :=
  fun l J Jx W hst hk hY h0 => through1 n hn l bx ex fe lbe v bs J Jx Fin hst (fun d A h => ⟨(hk d A h).1, (hk d A h).2.1, (hk d A h).2.2.1⟩) hent (fun A h => (hk _ A h).2.2.2) hY W h0
theorem refdecode_any (v : Value) (l : List Nat) (hn : l.length ≤ 140737488355328) (w : World) (hv : Bytes w v l) : Calls Try.prog 52 #[v] w (DecPost l w) := by
  have hw := refwalk_any v l hn w hv
  have Hv := Lib.hid hv
  obtain ⟨a, cap, rfl, hlc, hcm, hnil, hp⟩ := hv.opened
  have hcm' : l.length ≤ 9223372036854775807 := by unfold maxLen at hcm; omega
  clear hp hnil hcm
  unfold WalkPost at hw
  have hd : decRes l = if (walk l).2.2 = 0 then (instrs (walk l).1, 0, 0) else ([], (walk l).2.1, (walk l).2.2) := rfl
  have hil : (instrs (walk l).1).length = (walk l).1.length := by simp [instrs]
  unfold DecPost
  generalize decRes l = dr at *
  generalize walk l = r at *
  obtain ⟨xs, p, er⟩ := r
  simp only at *
  have Hd := Lib.hid hd
  clear hd
  go_enter Try.func52, Try.ntmps52
  go_wp2_with fail
  refine hw.mono ?_
  rintro e w1 ⟨vp, vc, rfl, o1, o2, hb, g1, g2⟩
  have Ho := Lib.hid o2
  clear o1 o2 hw
  by_cases he : er = 0
  · subst he
    go_wp2
    refine bodyPost_ret (v := .tuple #[vc, .int .i64 0, .int .i64 0]) (by simp [results, Try.results52, go_sem]) rfl ?_
    have h := Hd.out
    rw [if_pos trivial] at h
    rw [h]
    exact ⟨vc, rfl, by show w1.ownsRow 0 36 2 vc (instrs xs).length _; rw [hil]; exact Ho.out, hb, g2⟩
  · have hne : ((er : Int) != 0) = true := by simp; exact he
    go_wp2
    refine bodyPost_ret (v := .tuple #[.slice none 0 0, .int .i64 p, .int .i64 er]) (by simp [results, Try.results52, go_sem]) rfl ?_
    have h := Hd.out
    rw [if_neg he] at h
    rw [h]
    exact ⟨_, rfl, World.ownsRow_nil _ _ _ _, hb, g2.nilOf⟩
theorem own_formB {w : World} {base e sz n : Nat} {v : Value} {xs : List Value} (h : w.ownsRow base e sz v n xs) (hn : 0 < n) : ∃ g cap, v = .slice (some ⟨g, 0, none⟩) n cap ∧ base ≤ g ∧ g < w.heap.size := by
  obtain ⟨hl, h⟩ := h
  rcases h with ⟨rfl, rfl⟩ | ⟨g, cap, cur, rfl, hb, hg, hn, hm, hcs, ht⟩
  · omega
  · exact ⟨g, cap, rfl, hb, (Array.getElem?_eq_some_iff.1 hg).1⟩
theorem own_cells {w : World} {base e sz n : Nat} {v : Value} {xs : List Value} (h : w.ownsRow base e sz v n xs) : ∀ (j : Nat) (o : Obj), v.ownBlock = some j → w.heap[j]? = some o → o.isCells = true := by
  intro j o hj ho
  obtain ⟨hl, h⟩ := h
  rcases h with ⟨rfl, rfl⟩ | ⟨g, cap, cur, rfl, hb, hg, hn, hm, hcs, ht⟩
  · cases hj
  · simp only [Value.ownBlock, Option.some.injEq] at hj
    subst hj
    rw [hg] at ho
    cases ho
    rfl
theorem own_ge {w : World} {base e sz n : Nat} {v : Value} {xs : List Value} (h : w.ownsRow base e sz v n xs) {B : Nat} (hB : B ≤ base) : w.ownsRow B e sz v n xs := by
  obtain ⟨hl, h⟩ := h
  rcases h with h | ⟨g, cap, cur, hv, hb, rest⟩
  · exact ⟨hl, .inl h⟩
  · exact ⟨hl, .inr ⟨g, cap, cur, hv, Nat.le_trans hB hb, rest⟩⟩
structure DecI (w : World) (v : Value) (bs : List Nat) (d : List (Nat × (Nat × Nat))) (A : World) : Prop where
  row : ∃ x, A.cell? ⟨w.heap.size, 0, none⟩ = some x ∧ A.ownsRow (w.heap.size + 5) 36 2 x d.length (encI (instrs d))
  frow : A.frozen? ⟨w.heap.size, 0, none⟩ = false
  pl : A.cell? ⟨w.heap.size + 1, 0, none⟩ = some (.int .i64 0)
  fpl : A.frozen? ⟨w.heap.size + 1, 0, none⟩ = false
  er : A.cell? ⟨w.heap.size + 2, 0, none⟩ = some (.int .i64 0)
  fer : A.frozen? ⟨w.heap.size + 2, 0, none⟩ = false
  bx : A.cell? ⟨w.heap.size + 3, 0, none⟩ = some v
  ex : A.cell? ⟨w.heap.size + 4, 0, none⟩ = some (.func (.func 57) #[] #[.pointer (some ⟨w.heap.size + 1, 0, none⟩), .pointer (some ⟨w.heap.size + 2, 0, none⟩)])
  bytes : Bytes A v bs
  below : Below w.heap.size w A
  lt : w.heap.size + 5 ≤ A.heap.size
theorem DecI.calm {w A B : World} {v : Value} {bs : List Nat} {d : List (Nat × (Nat × Nat))} (h : DecI w v bs d A) {n : Nat} (hn : w.heap.size ≤ n) (k : Calm n A B) : DecI w v bs d B := by
  obtain ⟨x, hx, ho⟩ := h.row
  exact ⟨⟨x, k.cell hx, k.own ho⟩, (k.frozen hx).trans h.frow, k.cell h.pl, (k.frozen h.pl).trans h.fpl, k.cell h.er, (k.frozen h.er).trans h.fer, k.cell h.bx, k.cell h.ex, k.bytes h.bytes,
    Calm.below h.below ⟨k.os, k.tape, k.output, k.size, k.cells, fun i hi => k.block i (by omega)⟩, Nat.le_trans h.lt k.size⟩
theorem DecI.iter {w A : World} {v : Value} {bs : List Nat} {d : List (Nat × (Nat × Nat))} (h : DecI w v bs d A) (n : Nat) :
    IterK (w.heap.size + 3) (w.heap.size + 4) 57 #[.pointer (some ⟨w.heap.size + 1, 0, none⟩), .pointer (some ⟨w.heap.size + 2, 0, none⟩)] v bs n
      (fun A B => B = (A.setCell ⟨w.heap.size + 1, 0, none⟩ (.int .i64 (walk bs).2.1)).setCell ⟨w.heap.size + 2, 0, none⟩ (.int .i64 (walk bs).2.2)) A :=
  ⟨h.bx, h.ex, h.bytes, callsIn_wide.2 (end57 _ _ _ _ _ _ A h.pl h.fpl h.er h.fer (by omega))⟩
set_option maxRecDepth 100000 in
set_option maxHeartbeats 4000000 in
theorem decode_any (v : Value) (l : List Nat) (w : World) (hv : Bytes w v l) : Calls Try.prog 44 #[v] w (DecPost l w) := by
  have Hv := Lib.hid hv
  obtain ⟨a, cap, rfl, hlc, hcm, hnil, hp⟩ := hv.opened
  clear hp hnil hcm hlc
  refine (callsIn_wide (n := 9)).1 ?_
  have h1 : (1 : Nat) ≤ 9 := by omega
  refine callsIn_of_wp_marks Try.func44 rfl trivial ?_ rfl
  simp only [Try.ntmps44, List.size_toArray, List.length_cons, List.length_nil, Nat.reduceAdd, Nat.reduceSub, Array.replicate_succ, Array.replicate_zero, List.push_toArray, List.append_toArray, List.nil_append, List.cons_append]
  gi_wp2_with (refine ⟨trivial, ?_⟩; gi_at_call 50; refine (callsIn_wide.2 (through_any _ _ _ _ _ _)).mono ?_; rintro e w' ⟨rfl, rfl⟩)
  obtain ⟨w5, hw5⟩ : ∃ w5, w5 = (((((w.alloc (.cells #[.slice none 0 0] 43)).alloc (.cells #[.int .i64 0] 3)).alloc (.cells #[.int .i64 0] 37)).alloc (.cells #[.slice a l.length cap] 41)).alloc
    (.cells #[.func (.func 57) #[] #[.pointer (some ⟨w.heap.size + 1, 0, none⟩), .pointer (some ⟨w.heap.size + 1 + 1, 0, none⟩)]] 82)) := ⟨_, rfl⟩
  rw [← hw5]
  have hbel : Below w.heap.size w w5 := by rw [hw5]; exact Bel.al (Bel.al (Bel.al (Bel.al (Bel.new _ _) _) _) _) _
  have hs5 : w5.heap.size = w.heap.size + 5 := by rw [hw5]; simp
  have hI0 : DecI w (.slice a l.length cap) l [] w5 := by
    refine ⟨⟨.slice none 0 0, ?_, World.ownsRow_nil _ _ _ _⟩, ?_, ?_, ?_, ?_, ?_, ?_, ?_, Hv.out.below hbel, hbel, by omega⟩ <;> (rw [hw5]; simp [go_sem])
  clear hw5
  have hwl := walk_len l
  refine range_to (gf := 58) (lb := #[.pointer (some ⟨w.heap.size + 3, 0, none⟩), .pointer (some ⟨w.heap.size + 4, 0, none⟩)]) rfl (enters_of Try.func58 (by kernel_rfl) rfl) (encs := encW) (fun _ => rfl) (walk l).1 _ _
    (through_seq 8 (by omega) _ _ 57 #[.pointer (some ⟨w.heap.size + 1, 0, none⟩), .pointer (some ⟨w.heap.size + 2, 0, none⟩)] (.slice a l.length cap) l
      (fun A B => B = (A.setCell ⟨w.heap.size + 1, 0, none⟩ (.int .i64 (walk l).2.1)).setCell ⟨w.heap.size + 2, 0, none⟩ (.int .i64 (walk l).2.2)) (enters_of Try.func57 (by kernel_rfl) rfl))
    (fun A B h => by rw [h]; exact (KeepsOthers.setCell _ _ _).trans (KeepsOthers.setCell _ _ _))
    (DecI w (.slice a l.length cap) l) (fun _ _ => False) (fun d A B h k => h.calm (by omega) k) (fun _ _ _ h _ => h) (fun d A h => h.iter 8) hI0 ?round ?done (fun _ _ _ h _ _ => h.elim)
  case round =>
    rintro l' pre ⟨p, o, x⟩ rest W hx hi hsz
    have hpl : pre.length < 16384 := by rw [hx] at hwl; simp at hwl; omega
    simp only [encW, instrVal]
    gi_wp2
    refine ⟨KeepsOthers.alloc _ _, fun W2 hs2 hc2 => ?_⟩
    have hi2 := hi.calm (by omega) ((Calm.of (Bel.new W (.cells #[.int .u8 o, .int .u32 x] 36)) hsz).trans hc2)
    have hn0 : W2.cell? ⟨W.heap.size, 0, none⟩ = some (.int .u8 o) := hc2.cell (by simp [go_sem])
    have hn1 : W2.cell? ⟨W.heap.size, 1, none⟩ = some (.int .u32 x) := hc2.cell (by simp [go_sem])
    obtain ⟨x', hxc, hxo⟩ := hi2.row
    have hfr := hi2.frow
    have hl2 := hi2.lt
    obtain ⟨j0, hj, hy0, hy1, hy2⟩ := info_parts info36
    have hb43 := run_buildSlice43
    have hz36 := zero36
    have hxa := hxo.alloc (.cells #[.int .u8 o, .int .u32 x] 36)
    have hnw := news_new W2 #[.int .u8 o, .int .u32 x] 36
    rw [hs2, World.size_alloc] at hnw
    rw [World.size_alloc] at hs2
    have Hi2 := Lib.hid hi2
    have Hxo := Lib.hid hxo
    clear hi hi2 hxo hc2
    gi_wp2_with ((with_reducible refine wpListIn_append_own (o := ⟨some 18, .call { callee := .builtin .append, args := #[.tmp 15, .tmp 17], argTypes := #[43, 43] }, _, _, _, none⟩) _ rfl _ _ 43 rfl (w.heap.size + 5) 36 j0 (.agg #[.int .u8 0, .int .u32 0]) 2 8 Try.underlying43 hj hy0 hy1 hy2 ?_ ?_ x' pre.length (encI (instrs pre)) ?_ hxa ⟨W.heap.size + 1, 0, none⟩ 1 1 [.int .u8 o, .int .u32 x] ?_ ?_ hnw ?_ ?_ ?_ ?_ ?_); rfl; decide; rfl; rfl; rfl; (simp [Value.oneCell']); (unfold maxLen; omega); omega; (simp; omega); intro v' w' r1 r2 r3; obtain ⟨g, c', rfl, hbg, hgl⟩ := own_formB r1 (by omega); have hbb : Below (w.heap.size + 5) W2 w' := ((Bel.new W2 _).mono hl2).trans ((Below.refl _ _).grown r2 (by simp; omega) (fun k e => (Hxo.out.lt k e).1)); have hcx : w'.cell? ⟨w.heap.size, 0, none⟩ = some x' := (hbb.cell (p := ⟨w.heap.size, 0, none⟩) (by show w.heap.size < w.heap.size + 5; omega)).trans hxc; have hcf : w'.frozen? ⟨w.heap.size, 0, none⟩ = false := (hbb.frozen (p := ⟨w.heap.size, 0, none⟩) (by show w.heap.size < w.heap.size + 5; omega)).trans hfr)
    have hoth : ∀ u b, b ≠ w.heap.size → b < w.heap.size + 5 → (w'.setCell ⟨w.heap.size, 0, none⟩ u).cell? ⟨b, 0, none⟩ = W2.cell? ⟨b, 0, none⟩ :=
      fun u b h1 h2 => (World.cell?_of_block (Below.heap_setCell _ _ _ _ h1)).trans (hbb.cell (p := ⟨b, 0, none⟩) h2)
    have hofr : ∀ u b, b < w.heap.size + 5 → (w'.setCell ⟨w.heap.size, 0, none⟩ u).frozen? ⟨b, 0, none⟩ = W2.frozen? ⟨b, 0, none⟩ := fun u b h2 => by
      rw [World.frozen?_setCell]; exact hbb.frozen (p := ⟨b, 0, none⟩) h2
    have hi2 := Hi2.out
    have hbw : ∀ u, Below w.heap.size w (w'.setCell ⟨w.heap.size, 0, none⟩ u) := fun u => (hi2.below.trans (hbb.mono (by omega))).setCell (p := ⟨w.heap.size, 0, none⟩) (Nat.le_refl _) u
    have henc : encI (instrs (pre ++ [(p, (o, x))])) = encI (instrs pre) ++ [.int .u8 o, .int .u32 x] := by
      rw [instrs, List.map_append, encI_append]; rfl
    have hsw : W2.heap.size ≤ w'.heap.size := hbb.size
    refine ⟨(KeepsOthers.alloc W2 _).trans ((KeepsOthers.of_grownBy r2 (own_cells hxa)).trans (KeepsOthers.setCell _ _ _)), ⟨⟨_, World.cell?_setCell_same' _ _ _ (by rw [hcx]; rfl), ?_⟩, (hofr _ _ (by omega)).trans hi2.frow,
      (hoth _ _ (by omega) (by omega)).trans hi2.pl, (hofr _ _ (by omega)).trans hi2.fpl, (hoth _ _ (by omega) (by omega)).trans hi2.er, (hofr _ _ (by omega)).trans hi2.fer, (hoth _ _ (by omega) (by omega)).trans hi2.bx, (hoth _ _ (by omega) (by omega)).trans hi2.ex,
      Hv.out.below (hbw _), hbw _, by have := (hbw (.int .i64 0)).size; show _ ≤ (World.setCell _ _ _).heap.size; have h6 := ((Below.refl w'.heap.size w').setCell (p := ⟨w'.heap.size, 0, none⟩) (Nat.le_refl _) (.int .i64 0)).size; simp [World.setCell] at *; omega⟩⟩
    rw [henc, List.length_append]
    exact ownsRow_setCell_below r1 (by show w.heap.size < w.heap.size + 5; omega) _
  case done =>
    rintro D W2 W3 W4 hi rfl hc hD hd
    rename_i K hK
    refine hK _ _ (wpIn_wide.2 ?_)
    obtain ⟨x, hx, ho⟩ := hi.row
    have hp3 : ((W2.setCell ⟨w.heap.size + 1, 0, none⟩ (.int .i64 (walk l).2.1)).setCell ⟨w.heap.size + 2, 0, none⟩ (.int .i64 (walk l).2.2)).cell? ⟨w.heap.size + 1, 0, none⟩ = some (.int .i64 (walk l).2.1) :=
      (World.cell?_of_block (Below.heap_setCell _ _ _ _ (by show w.heap.size + 1 ≠ w.heap.size + 2; omega))).trans (World.cell?_setCell_same' _ _ _ (by rw [hi.pl]; rfl))
    have he3 : ((W2.setCell ⟨w.heap.size + 1, 0, none⟩ (.int .i64 (walk l).2.1)).setCell ⟨w.heap.size + 2, 0, none⟩ (.int .i64 (walk l).2.2)).cell? ⟨w.heap.size + 2, 0, none⟩ = some (.int .i64 (walk l).2.2) :=
      World.cell?_setCell_same' _ _ _ (by rw [(World.cell?_of_block (Below.heap_setCell _ _ _ _ (by show w.heap.size + 2 ≠ w.heap.size + 1; omega)) : World.cell? _ ⟨w.heap.size + 2, 0, none⟩ = W2.cell? _), hi.er]; rfl)
    have hx3 : ((W2.setCell ⟨w.heap.size + 1, 0, none⟩ (.int .i64 (walk l).2.1)).setCell ⟨w.heap.size + 2, 0, none⟩ (.int .i64 (walk l).2.2)).cell? ⟨w.heap.size, 0, none⟩ = some x :=
      (World.cell?_of_block (Below.heap_setCell _ _ _ _ (by show w.heap.size ≠ w.heap.size + 2; omega))).trans ((World.cell?_of_block (Below.heap_setCell _ _ _ _ (by show w.heap.size ≠ w.heap.size + 1; omega))).trans hx)
    have ho3 := hc.own (ownsRow_setCell_below (ownsRow_setCell_below ho (by show w.heap.size + 1 < w.heap.size + 5; omega) (.int .i64 (walk l).2.1)) (a := ⟨w.heap.size + 2, 0, none⟩) (by show w.heap.size + 2 < w.heap.size + 5; omega) (.int .i64 (walk l).2.2))
    have hc' : Calm w.heap.size _ W4 := ⟨hc.os, hc.tape, hc.output, hc.size, hc.cells, fun i hi => hc.block i (by omega)⟩
    have hb3 := Calm.below ((hi.below.setCell (p := ⟨w.heap.size + 1, 0, none⟩) (by show w.heap.size ≤ w.heap.size + 1; omega) (.int .i64 (walk l).2.1)).setCell (p := ⟨w.heap.size + 2, 0, none⟩) (by show w.heap.size ≤ w.heap.size + 2; omega) (.int .i64 (walk l).2.2)) hc'
    have hp4 := hc.cell hp3
    have he4 := hc.cell he3
    have hx4 := hc.cell hx3
    clear hp3 he3 hx3 hc hc' hi ho hx hI0 hwl
    have hd0 : decRes l = if (walk l).2.2 = 0 then (instrs (walk l).1, 0, 0) else ([], (walk l).2.1, (walk l).2.2) := rfl
    have hil : (instrs (walk l).1).length = (walk l).1.length := by simp [instrs]
    have hk := Calm.putObj W4 (.deferred none) hd rfl hD
    have hk' := Calm.putObj (B := w.heap.size) W4 (.deferred none) hd rfl (by omega)
    have hmx : Try.prog.follows .mixedOrders = true := by kernel_rfl
    generalize hdr : decRes l = dr at *
    have Hdr := Lib.hid hdr
    clear hdr
    generalize walk l = r at *
    obtain ⟨xs, p, er⟩ := r
    simp only at *
    have Hd := Lib.hid hd0
    have Ho := Lib.hid ho3
    have Hhd := Lib.hid hd
    clear hd0 ho3 hd
    by_cases hez : er = 0
    · subst hez
      go_wp2
      refine ⟨by simp, .inl ⟨_, _, rfl, run_takeDeferred Hhd.out, ?_⟩⟩
      have h := Hd.out
      rw [if_pos trivial] at h
      refine ⟨.tuple #[x, .int .i64 0, .int .i64 0], by simp [results, Try.results44, go_sem], ?_⟩
      unfold DecPost
      rw [Hdr.out, h]
      have ho := hk'.own Ho.out
      exact ⟨x, rfl, by show World.ownsRow _ 0 36 2 x (instrs xs).length _; rw [hil]; exact own_ge ho (Nat.zero_le _), Calm.below hb3 hk', below_grownBy (Calm.below hb3 hk') _, fun g e => .inr (by have := (ho.lt g e).1; omega)⟩
    · have hne : ((er : Int) != 0) = true := by simp; exact hez
      go_wp2
      go_quiet (fail)
      go_wp2
      have hdd : (W4.drewN nq).heap[D]? = some (.deferred (some [])) := Hhd.out
      refine ⟨by simp, .inl ⟨_, _, rfl, run_takeDeferred hdd, ?_⟩⟩
      have h := Hd.out
      rw [if_neg hez] at h
      refine ⟨.tuple #[.slice none 0 0, .int .i64 p, .int .i64 er], by simp [results, Try.results44, go_sem], ?_⟩
      unfold DecPost
      rw [Hdr.out, h]
      have hkk := Calm.below (A := W4.drewN nq) ⟨hb3.os, hb3.tape, hb3.output, hb3.size, hb3.block⟩ (Calm.putObj (B := w.heap.size) _ (.deferred none) hdd rfl (by omega))
      exact ⟨_, rfl, World.ownsRow_nil _ _ _ _, hkk, below_grownBy hkk _, fun g e => by cases e⟩
end Go.Proofs.Ytdigcbkjlppenaa
