import Derived.Test.YtofkamnmgpkehabRefW
/- The document's Procs, Legal, Targets: the walks. -/
namespace Go.Proofs.Ytofkamnmgpkehab
open Go.RowKit
theorem run_build39_3 (x y z : Int) (w : World) : (Instr.build 39 #[(0, .int .u32 x), (1, .int .u32 y), (2, .int .u32 z)]).run Try.prog w = .ok (.agg #[.int .u32 x, .int .u32 y, .int .u32 z, .int .i64 0]) w := by kernel_rfl
theorem enter_row {code : List (Nat × Nat)} (h3 : Firsts code) {k t : Nat} (hk : k < code.length) (ho : opAt code k = 3) (ht : IsEnd code k t) :
    enters code k < (psTo code code.length).length ∧ (psTo code code.length).getD (enters code k) (0, 0, 0) = (k, t, (code.getD k (0, 0)).2) := by
  have hT := tiles (code := code) h3.2 code.length
  have hr := hT.lt k hk
  have he := (hT.en k hk).1 ho
  have hx : (ofTo code code.length).getD k 0 = enters code k := by
    rw [ofTo_at code _ k hk, ← enters_ps]
    show enters code k + _ - 1 = _
    rw [if_pos ho]; omega
  rw [hx] at he hr
  have h2 := hT.end_eq hr (e := t) (by rw [he]; exact ht)
  have hf := hT.fr _ hr
  rw [he] at hf
  refine ⟨hr, ?_⟩
  generalize (psTo code code.length).getD (enters code k) (0, 0, 0) = p at *
  obtain ⟨a, b, c⟩ := p
  simp only at he h2 hf
  rw [he, ← h2, hf]
theorem enters_all {code : List (Nat × Nat)} : (psTo code code.length).take (enters code code.length) = psTo code code.length := by
  rw [enters_ps]; exact List.take_length
theorem take_row {P : List (Nat × Nat × Nat)} {n : Nat} {p : Nat × Nat × Nat} (hn : n < P.length) (hp : P.getD n (0, 0, 0) = p) : P.take (n + 1) = P.take n ++ [p] := by
  rw [List.take_add_one, List.getElem?_eq_getElem hn, ← hp, List.getD_eq_getElem?_getD, List.getElem?_eq_getElem hn]; rfl
set_option maxRecDepth 100000 in
set_option maxHeartbeats 4000000 in
theorem refprocs_any (v : Value) (code : List (Nat × Nat)) (hl : code.length ≤ 16384) (h3 : Firsts code) (w : World) (hv : Instrs w v code) :
    Calls Try.prog 23 #[v] w fun e w' => ∃ u, e = .returned u ∧ w'.ownsRow w.heap.size 39 4 u (psTo code code.length).length (encP (psTo code code.length)) ∧ Below w.heap.size w w' := by
  have hlt := hv.lt
  obtain ⟨i0, hi, hz0, hz1, hz2⟩ := info_parts info39
  have hb39 := run_build39_3
  have hb64 := run_buildSlice64
  obtain ⟨a, cap, rfl, hlc, hcm, hnil, hp⟩ := hv.opened
  obtain ⟨b, off, rfl, hbl, hc⟩ := hp h3.1
  have Hc := Lib.hid hc
  have Hlt := Lib.hid hlt
  have HV := Lib.hid hv
  have hlm : code.length ≤ 9223372036854775807 := by omega
  have hP0 := enters_le code code.length
  have Hend := Lib.hid (fun (k : Nat) (hk : k < code.length) (W : World) (hb : Below w.heap.size w W) => refend_any _ code k hk W (hv.below hb))
  clear hp hnil hv hlt hc hcm
  go_enter Try.func23, Try.ntmps23
  go_wp2_with fail
  go_loopw [3, 4] (fun s i wr => ∃ (k : Nat) (u : Value), k ≤ code.length ∧ u = s ∧ i = .int .i64 k ∧ wr.ownsRow w.heap.size 39 4 u (enters code k) (encP ((psTo code code.length).take (enters code k))) ∧ Below w.heap.size w wr) (fun _ i _ => code.length - (intOf i).toNat)
  case atStart => exact ⟨0, .slice none 0 0, by omega, rfl, rfl, World.ownsRow_nil _ _ _ _, Below.refl _ _⟩
  case round =>
    obtain ⟨k, u, hk, rfl, rfl, ho, hb⟩ := hrel
    by_cases hlt' : k < code.length
    · obtain ⟨hc1, hc2⟩ := Hc.out k hlt'
      have hq1 := (hb.cell (p := ⟨b, off + k * 2, none⟩) hbl).trans hc1
      have hq2 := (hb.cell (p := ⟨b, off + k * 2 + 1, none⟩) hbl).trans hc2
      have hop : (code.getD k (0, 0)).1 = opAt code k := rfl
      rw [hop] at hq1
      have hla := (Hlt.out k).2
      have hki : (k : Int) < (code.length : Int) := by omega
      have hk0 : (0 : Int) ≤ (k : Int) := by omega
      have Ho := Lib.hid ho
      have Hb := Lib.hid hb
      clear ho hb hc1 hc2 hop
      by_cases ho3 : opAt code k = 3
      · rw [ho3] at hq1
        have Hrow := Lib.hid (fun t (ht : IsEnd code k t) => enter_row h3 hlt' ho3 ht)
        have hen : enters code (k + 1) = enters code k + 1 := by show enters code k + _ = _; rw [if_pos ho3]
        have Hen := Lib.hid hen
        have hek := enters_le code k
        have hkm : IntKind.u32.wrap (k : Int) = (k : Int) := u32_wrap k (by omega)
        have hb63 : enters code k + 1 ≤ maxLen := by unfold maxLen; omega
        have hb47 : (enters code k + 1) * 24 ≤ 140737488355328 := by omega
        clear hen
        generalize hn : enters code k = n at *
        generalize (code.getD k (0, 0)).2 = x at *
        have Hn := Lib.hid hn
        clear hn ho3
        have Hend2 := Lib.hid (Hend.out k hlt')
        have Keep := Lib.hid (show ∀ W W' : World, Below W.heap.size W W' → (W.cell? ⟨b, off + k * 2 + 1, none⟩ = some (.int .u32 x) ∧ Below w.heap.size w W ∧ w.heap.size ≤ W.heap.size) → (W'.cell? ⟨b, off + k * 2 + 1, none⟩ = some (.int .u32 x) ∧ Below w.heap.size w W' ∧ w.heap.size ≤ W'.heap.size) from
          fun W W' hbw ⟨e1, e2, e3⟩ => ⟨(hbw.cell (p := ⟨b, off + k * 2 + 1, none⟩) (Nat.lt_of_lt_of_le hbl e3)).trans e1, Bel.tr e2 hbw, Nat.le_trans e3 hbw.size⟩)
        have H00 := Lib.hid (show (wr.drew.cell? ⟨b, off + k * 2 + 1, none⟩ = some (.int .u32 x) ∧ Below w.heap.size w wr.drew ∧ w.heap.size ≤ wr.drew.heap.size) from ⟨hq2, Hb.out.drew, Hb.out.size⟩)
        go_wp2_with fail
        clear hq1 hq2
        have KeepA := Lib.hid (show ∀ (W W' : World) (v' : Value), Grew W W' u v' → (W.cell? ⟨b, off + k * 2 + 1, none⟩ = some (.int .u32 x) ∧ Below w.heap.size w W ∧ w.heap.size ≤ W.heap.size) → (W'.cell? ⟨b, off + k * 2 + 1, none⟩ = some (.int .u32 x) ∧ Below w.heap.size w W' ∧ w.heap.size ≤ W'.heap.size) from
          fun W W' v' hg ⟨e1, e2, e3⟩ => by
            have hB : Below w.heap.size w W' := e2.grown hg.1 e3 (fun g e => (Ho.out.lt g e).1)
            exact ⟨(hB.cell (p := ⟨b, off + k * 2 + 1, none⟩) hbl).trans ((e2.cell (p := ⟨b, off + k * 2 + 1, none⟩) hbl).symm.trans e1), hB, hB.size⟩)
        go_region_held3 (fun w' => w'.cell? ⟨b, off + k * 2 + 1, none⟩ = some (.int .u32 x) ∧ Below w.heap.size w w' ∧ w.heap.size ≤ w'.heap.size)
          (first | assumption | exact KeepA.out _ _ _ hg3 (by assumption) | exact Keep.out _ _ (Bel.new _ _) (by assumption) | exact H00.out)
          (first | (refine step_append_grew rfl (.tmp 17) (.tmp 30) 64 rfl 39 i0 (.agg #[.int .u32 0, .int .u32 0, .int .u32 0, .int .i64 0]) 4 24 Try.underlying64 hi hz0 hz1 hz2 rfl (by decide) _ _ _ rfl (own_base (own_below Ho.out (Bel.dr (Bel.new _ _)))) ⟨_, 0, none⟩ 1 1 [_, _, _, _] rfl rfl (news_new _ #[_, _, _, _] 39) ?_ ?_ ?_ ?_; exact four_cells _ _ _; exact hb63; exact hb47; intro v3 w3 hr3 hg3 hn3) | (go_at_call 42; refine (Hend2.out _ ?_).mono ?_; exact (by assumption : _ ∧ Below w.heap.size w _ ∧ _).2.1; rintro e w' ⟨⟨t, rfl, ht⟩, hw'⟩; subst hw'; have htm : IntKind.u32.wrap (t : Int) = (t : Int) := u32_wrap t (by have := ht.2.1; omega)))
        have HB := Lib.hid (by assumption : w3.cell? ⟨b, off + k * 2 + 1, none⟩ = some (.int .u32 x) ∧ Below w.heap.size w w3 ∧ w.heap.size ≤ w3.heap.size).2.1
        obtain ⟨hr1, hr2⟩ := Hrow.out t ht
        have Hx := Lib.hid (show w3.ownsRow w.heap.size 39 4 v3 (enters code (k + 1)) (encP ((psTo code code.length).take (enters code (k + 1)))) from by
          rw [Hen.out, take_row hr1 hr2, encP_append]
          exact own_from hr3 (fun g e => by
            rcases hg3.2 g e with h' | h'
            · exact (Ho.out.lt g h').1
            · have := Hb.out.size
              simp at h'
              omega))
        clear hr3 hg3 hn3 hr1 hr2
        go_wp2_with fail
        go_roundw
        case rel => exact ⟨k + 1, v3, by omega, rfl, by go_num, Hx.out, HB.out⟩
        case measure => simp [intOf]; omega
      · have hne : ((opAt code k : Int) == 3) = false := by simp; omega
        have hen : enters code (k + 1) = enters code k := by show enters code k + _ = _; rw [if_neg ho3]; rfl
        have Hx := Lib.hid (show wr.ownsRow w.heap.size 39 4 u (enters code (k + 1)) (encP ((psTo code code.length).take (enters code (k + 1)))) from by rw [hen]; exact Ho.out)
        clear hen ho3 hq2
        generalize opAt code k = o at *
        go_wp2_with fail
        go_roundw
        case rel => exact ⟨k + 1, u, by omega, rfl, by go_num, Hx.out, Hb.out⟩
        case measure => simp [intOf]; omega
    · obtain rfl : k = code.length := by omega
      have Hx := Lib.hid (show wr.ownsRow w.heap.size 39 4 u (psTo code code.length).length (encP (psTo code code.length)) from by
        have := ho
        rw [enters_all, enters_ps] at this
        exact this)
      clear ho
      go_wp2_with fail
      exact bodyPost_ret (v := u) (by simp [results, Try.results23, go_sem]) rfl ⟨_, rfl, Hx.out, hb⟩
end Go.Proofs.Ytofkamnmgpkehab
