import Derived.Test.YtdigcbkjlppenaaWalkI
import Derived.Laws.EntriesVeiled
/- IsaWalk: the walk. -/
namespace Go.Proofs.Ytdigcbkjlppenaa
open Go.RowKit
set_option linter.unusedVariables false
attribute [local go_sem] Oper.semAt_some
theorem keeps_calm {w A B : World} (h : KeepsOthers w A) (k : Calm w.heap.size A B) : KeepsOthers w B :=
  ⟨Nat.le_trans h.size k.size, fun i o hi ho => (k.block i (Array.getElem?_eq_some_iff.1 hi).1).trans (h.same i o hi ho)⟩
set_option maxRecDepth 100000 in
set_option maxHeartbeats 8000000 in
theorem isaWalk_walk (x : Value) (l : List Nat) (lv : Int) (w : World) (hx : Bytes w x l) (hl : l.length ≤ 140737488351232) :
    Calls Try.prog 9 #[x, .int .i64 lv] w fun e w' => e = .returned (.bool true) ∧ Below w.heap.size w w' := by
  have HX := Lib.hid hx
  obtain ⟨ax, cx, rfl, hlcx, hcmx, -, -⟩ := hx.opened
  have hr := refwalk_any _ l (by omega) (w.alloc (.cells #[.bool false] 4)) (hx.below (Bel.new _ _))
  have Hr := Lib.hid hr
  have hwl := walk_len l
  clear hx hr
  refine (callsIn_wide (n := 20)).1 ?_
  have hn1 : (1 : Nat) ≤ 20 := by omega
  refine callsIn_of_wp_marks Try.func9 rfl trivial ?_ rfl
  simp only [Try.ntmps9, List.size_toArray, List.length_cons, List.length_nil, Nat.reduceAdd, Nat.reduceSub, Array.replicate_succ, Array.replicate_zero, List.push_toArray, List.append_toArray, List.nil_append, List.cons_append]
  gi_wp2_with fail
  refine ⟨trivial, (callsIn_wide.2 Hr.out).mono ?_⟩
  rintro e w1 ⟨vp, vc, rfl, op, oc, hb1, gp, gc⟩
  obtain ⟨a1, c1, hvp⟩ := own_shape op
  obtain ⟨a2, c2, hvc⟩ := own_shape oc
  have fp := fresh_ge gp (Nat.le_refl _)
  have fc := fresh_ge gc (Nat.le_refl _)
  have OP := Lib.hid op
  have OC := Lib.hid oc
  have s01 : w.heap.size < w1.heap.size := Bel.lt hb1
  have hb01 := Bel.of hb1
  subst hvp
  subst hvc
  clear op oc gp gc Hr
  obtain ⟨wa, hwa⟩ : ∃ wa, wa = (w1.alloc (.cells #[.slice a1 (walk l).1.length c1] 42)).alloc (.cells #[.slice a2 (walk l).1.length c2] 43) := ⟨_, rfl⟩
  have hba : Below w1.heap.size w1 wa := by rw [hwa]; exact Bel.al (Bel.new _ _) _
  have hsa : wa.heap.size = w1.heap.size + 2 := by rw [hwa]; simp
  have pca : wa.cell? ⟨w1.heap.size, 0, none⟩ = some (.slice a1 (walk l).1.length c1) := by rw [hwa]; simp [go_sem]
  have cca : wa.cell? ⟨w1.heap.size + 1, 0, none⟩ = some (.slice a2 (walk l).1.length c2) := by rw [hwa]; simp [go_sem]
  have rra : wa.cell? ⟨w.heap.size, 0, none⟩ = some (.bool false) := (hba.cell (p := ⟨w.heap.size, 0, none⟩) s01).trans ((hb1.cell (p := ⟨w.heap.size, 0, none⟩) (by simp)).trans (by simp [go_sem]))
  have rfa : wa.frozen? ⟨w.heap.size, 0, none⟩ = false := (hba.frozen (p := ⟨w.heap.size, 0, none⟩) s01).trans ((hb1.frozen (p := ⟨w.heap.size, 0, none⟩) (by simp)).trans (by simp [go_sem]))
  have hb0a := Bel.tr hb01 hba
  have OPa := Lib.hid (own_below OP.out hba)
  have OCa := Lib.hid (own_below OC.out hba)
  have hle := lentBytes_any _ l hl wa (HX.out.below hb0a)
  have Hle := Lib.hid hle
  have hob1 := fun g e => (OP.out.lt g e).2
  have hob2 := fun g e => (OC.out.lt g e).2
  have Hob1 := Lib.hid hob1
  have Hob2 := Lib.hid hob2
  clear hle hob1 hob2 OP OC hb1 fp fc
  gi_wp2_with fail
  rw [← hwa]
  refine ⟨trivial, (callsIn_wide.2 Hle.out).mono ?_⟩
  rintro e w2 ⟨g0, c0, rfl, o2, hb2, hg0⟩
  clear Hle
  have hg02 := (o2.lt g0 rfl).2
  have hltl : ∀ i ∈ l ++ marksB 0 0 64, i < 256 := fun i hi => by
    rcases List.mem_append.1 hi with h | h
    · exact HX.out.2 i h
    · exact marksB_lt _ _ _ i h
  have hlen64 : (l ++ marksB 0 0 64).length = l.length + 64 := by rw [List.length_append, marksB_length]
  have hlent : Bytes w2 (.slice (some ⟨g0, 0, none⟩) (l.length + 64) c0) (l ++ marksB 0 0 64) := Bytes.own (by rw [hlen64]; exact o2) hltl
  have hcap : l.length + 64 ≤ c0 := (own_cap o2).1
  have hcl : (l.length : Int) ≤ (c0 : Int) := by omega
  have Hwf := Lib.hid (walkfn_any _ l hl w2 hlent.head)
  have Hlent := Lib.hid hlent
  have O2 := Lib.hid o2
  clear hltl hlen64 hlent o2 hwa
  gi_wp2_with fail
  refine ⟨trivial, (callsIn_wide.2 Hwf.out).mono ?_⟩
  rintro e w3 ⟨bx, u, rfl, hbx, hbx2, ubc, uec, ou, fu, hb3⟩
  clear Hwf
  have hb0 := Bel.tr hb0a (Bel.tr hb2 hb3)
  have Hkp := Lib.hid (fun W hb hb' => keptBytes_true _ (.slice ax l.length cx) l hl W (Hlent.out.below (w' := W) hb) (HX.out.below hb'))
  have UB := Lib.hid ubc
  have UE := Lib.hid uec
  have OU := Lib.hid ou
  clear ubc uec ou
  gi_wp2_with fail
  rename_i Kf hKf
  refine hKf _ _ ?_
  clear hKf Kf
  simp only [Act.put, List.setIfInBounds_toArray, List.set_cons_zero, List.set_cons_succ]
  gi_wp2_with fail
  have hbb : Below w3.heap.size w3 (w3.alloc (.cells #[.func (.func 58) #[] #[.pointer (some ⟨bx, 0, none⟩), .pointer (some ⟨bx + 1, 0, none⟩)]] 48)) := Bel.new _ _
  refine ⟨trivial, (callsIn_wide.2 (Hkp.out _ (Bel.tr hb3 hbb) (Bel.tr hb0 hbb))).mono ?_⟩
  rintro e w4 ⟨rfl, hb4⟩
  have hs34 : w3.heap.size < w4.heap.size := Bel.lt hb4
  have acb : w4.cell? ⟨w3.heap.size, 0, none⟩ = some (.func (.func 58) #[] #[.pointer (some ⟨bx, 0, none⟩), .pointer (some ⟨bx + 1, 0, none⟩)]) := (hb4.cell (p := ⟨w3.heap.size, 0, none⟩) (by simp)).trans (by simp [go_sem])
  have hb34 := Bel.tr hbb hb4
  have hb24 := Bel.tr hb3 hb34
  have Hov := Lib.hid (overBytes_any g0 (l.length + 64) c0 _ (by omega) w4 (own_below O2.out hb24))
  clear Hkp Hlent hbb
  gi_wp2_with fail
  refine ⟨trivial, (callsIn_wide.2 Hov.out).mono ?_⟩
  rintro e w5 ⟨⟨ve, rfl⟩, hgo⟩
  clear Hov
  have ss : w1.heap.size + 2 ≤ g0 ∧ g0 < w2.heap.size ∧ w2.heap.size ≤ bx ∧ bx + 1 < w3.heap.size ∧ w3.heap.size < w4.heap.size ∧ w4.heap.size ≤ w5.heap.size := ⟨by omega, hg02, hbx, hbx2, hs34, hgo.size⟩
  obtain ⟨ss1, ss2, ss3, ss4, ss5, ss6⟩ := ss
  have hba4 := Bel.tr hb2 hb24
  have go : ∀ b (v : Value), w4.cell? ⟨b, 0, none⟩ = some v → b ≠ g0 → w5.cell? ⟨b, 0, none⟩ = some v := fun b v h hne => hgo.cell (a := ⟨b, 0, none⟩) h (fun e => hne (by cases e; rfl))
  have hI : WkI w w5.heap.size w.heap.size w1.heap.size (w1.heap.size + 1) w3.heap.size bx (.slice a1 (walk l).1.length c1) (.slice a2 (walk l).1.length c2) u l w5 :=
    ⟨by omega, Nat.le_refl _, ⟨by omega, by omega, by omega, by omega, by omega⟩, fun g e => by
      rcases e with e | e | e
      · have := Hob1.out g e; omega
      · have := Hob2.out g e; omega
      · have := (OU.out.lt g e).2; omega,
    go _ _ ((hba4.cell (p := ⟨w1.heap.size, 0, none⟩) (by show w1.heap.size < _; omega)).trans pca) (by omega), go _ _ ((hba4.cell (p := ⟨w1.heap.size + 1, 0, none⟩) (by show w1.heap.size + 1 < _; omega)).trans cca) (by omega), go _ _ acb (by omega),
    go _ _ ((hb34.cell (p := ⟨bx, 0, none⟩) (by show bx < _; omega)).trans UB.out) (by omega), go _ _ ((hb34.cell (p := ⟨bx + 1, 0, none⟩) (by show bx + 1 < _; omega)).trans UE.out) (by omega),
    own_grown (own_below OPa.out hba4) hgo (fun g e e2 => by have := Hob1.out g e; cases e2; omega), own_grown (own_below OCa.out hba4) hgo (fun g e e2 => by have := Hob2.out g e; cases e2; omega), own_grown (own_below OU.out hb34) hgo (fun g e e2 => by have := fu g e; cases e2; omega),
    go _ _ ((hba4.cell (p := ⟨w.heap.size, 0, none⟩) (by show w.heap.size < _; omega)).trans rra) (by omega), (hgo.block w.heap.size (by omega) (fun e => by cases e; omega)) |> fun h => (World.frozen?_of_block h).trans ((hba4.frozen (p := ⟨w.heap.size, 0, none⟩) (by show w.heap.size < _; omega)).trans rfa),
    (Bel.tr hb0a hba4).grown hgo (Bel.tr hb0a hba4).size (fun g e => by cases e; omega)⟩
  have HI := Lib.hid hI
  have hac := ((Bel.new w5 (.cells #[.int .i64 0] 3)).cell (p := ⟨w3.heap.size, 0, none⟩) (by show w3.heap.size < _; omega)).trans hI.ac
  clear go hI hgo acb OPa OCa OU UB UE fu hb34 hb24 hba4 hb4 hb3 hb2 hb0 hb0a pca cca rra rfa Hob1 Hob2 O2
  gi_wp2_with fail
  clear hac
  obtain ⟨w6, hw6⟩ : ∃ w6, w6 = w5.alloc (.cells #[.int .i64 0] 3) := ⟨_, rfl⟩
  rw [← hw6]
  have hI6 := HI.out.turn (grown_alloc w5 (.cells #[.int .i64 0] 3)) (fun g e => by cases e)
  have hn6 : (w5.alloc (.cells #[.int .i64 0] 3)).cell? ⟨w5.heap.size, 0, none⟩ = some (.int .i64 0) := by simp [go_sem]
  have hf6 : (w5.alloc (.cells #[.int .i64 0] 3)).frozen? ⟨w5.heap.size, 0, none⟩ = false := by simp [go_sem]
  have hs6 : w6.heap.size = w5.heap.size + 1 := by rw [hw6]; simp
  rw [← hw6] at hI6 hn6 hf6
  have hlt := HX.out.2
  have H6 := Lib.hid (And.intro hI6 (And.intro hn6 hf6))
  have Hlt := Lib.hid hlt
  obtain ⟨N, hN⟩ : ∃ N, N = (walk l).1.length := ⟨_, rfl⟩
  have HN := Lib.hid hN
  rw [← hN] at H6 HI hwl ⊢
  clear hI6 hn6 hf6 hw6 HI hlt hN
  generalize hKK : w5.heap.size = K at *
  have HKK := Lib.hid hKK
  clear hKK
  refine range_to (gf := 58) (lb := #[.pointer (some ⟨bx, 0, none⟩), .pointer (some ⟨bx + 1, 0, none⟩)]) rfl (enters_of Try.func58 (by kernel_rfl) rfl) (encs := encW) (fun _ => rfl) (walk l).1 _ _
    (through_seq 19 (by omega) bx (bx + 1) 51 #[] u l (fun A B => B = A) (enters_of Try.func51 (by kernel_rfl) rfl))
    (fun A B h => by rw [h]; exact KeepsOthers.refl _)
    (fun pre W => WkI w K w.heap.size w1.heap.size (w1.heap.size + 1) w3.heap.size bx (.slice a1 N c1) (.slice a2 N c2) u l W ∧ W.cell? ⟨K, 0, none⟩ = some (.int .i64 pre.length) ∧ W.frozen? ⟨K, 0, none⟩ = false) (fun _ _ => False)
    (fun d A B h k => ⟨h.1.calm k (by omega), k.cell h.2.1, (k.frozen h.2.1).trans h.2.2⟩) (fun _ _ _ h _ => h) (fun d A h => h.1.iter Hlt.out 19) H6.out ?round ?done (fun _ _ _ h _ _ => h.elim)
  case round =>
    rintro l' pre ⟨p, o, x⟩ rest W hx hi hsz
    clear H6
    have hpl : pre.length < N := by rw [HN.out, hx]; simp
    simp only [encW, instrVal]
    gi_wp2
    refine ⟨KeepsOthers.alloc _ _, fun W2 hs2 hc2 => ?_⟩
    have hcal := (Calm.of (Bel.new W (.cells #[.int .u8 o, .int .u32 x] 36)) hsz).trans hc2
    have hi2 := hi.1.calm hcal (by omega)
    have hn2 := hcal.cell hi.2.1
    have hf2 := (hcal.frozen hi.2.1).trans hi.2.2
    have hb0 : W2.cell? ⟨W.heap.size, 0, none⟩ = some (.int .u8 o) := hc2.cell (by simp [go_sem])
    have hb1 : W2.cell? ⟨W.heap.size, 1, none⟩ = some (.int .u32 x) := hc2.cell (by simp [go_sem])
    obtain ⟨g1, g2, rfl, rfl, e1, e2, e3⟩ := hi2.at hx HN.out.symm
    have hp := hi2.pc
    have hcc := hi2.cc
    have q0 : (pre.length : Int) < (N : Int) := by omega
    have q1 : (0 : Int) ≤ (pre.length : Int) := by omega
    have q2 : (pre.length : Int) ≤ 16384 := by omega
    have Hi2 := Lib.hid hi2
    generalize hk : pre.length = k at *
    have hd : decide (N ≤ k) = false := decide_eq_false (by omega)
    have Hk := Lib.hid hk
    clear hi hi2 hcal hc2 hk hx
    gi_wp2_with fail
    refine wpIn_region_quietR_lit (by kernel_rfl) (by kernel_rfl) (by kernel_rfl) ?_
    repeat (gi_big_quiet_step (fail))
    refine wpQuietIn_nil ?_
    intro _ hw'
    obtain ⟨nq, hw''⟩ := hw'
    subst hw''
    gi_wp2
    have hst := grownBy_trans (grown_drewN W2 nq (some K)) (grown_setCell (W2.drewN nq) K 0 (.int .i64 ((k : Int) + 1))) (fun q e => .inl e)
    refine ⟨(KeepsOthers.drewN W2 nq).trans (KeepsOthers.setCell _ _ _), Hi2.out.turn hst (fun q e => by cases e; exact Nat.le_refl _), ?_, ?_⟩
    · rw [List.length_append, Hk.out]; exact World.cell?_setCell_same' _ _ _ (by show (W2.cell? ⟨K, 0, none⟩).isSome = true; rw [hn2]; rfl)
    · rw [World.frozen?_setCell]; exact hf2
  case done =>
    rintro D W2 W3 W4 hi rfl hc hD hd
    clear H6
    obtain ⟨hi, hn, hf⟩ := hi
    rename_i Kx hKx
    refine hKx _ _ ?_
    clear hKx Kx
    have hi4 := hi.calm hc (by omega)
    have hn4 := hc.cell hn
    have hf4 := (hc.frozen hn).trans hf
    rw [← HN.out] at hn4
    have hcc := hi4.cc
    have hac := hi4.ac
    have q2 : (0 : Int) ≤ (N : Int) := by omega
    have Hi4 := Lib.hid hi4
    have Hd := Lib.hid hd
    clear hi hn hf hc hi4 hd
    gi_wp2_with fail
    have hpk : Calls Try.prog 30 #[.int .i64 lv, .int .i64 ((N : Int) + 1)] W4 fun e w' => ∃ k : Nat, e = .returned (.int .i64 k) ∧ k < N + 1 ∧ w' = W4 := by
      have := pick_any lv (N + 1) (by omega) (by omega) W4
      rwa [show ((N + 1 : Nat) : Int) = (N : Int) + 1 from by omega] at this
    refine ⟨trivial, (callsIn_wide.2 hpk).mono ?_⟩
    rintro e w' ⟨st, rfl, hst, hw'⟩
    subst hw'
    have hKl := Hi4.out.kl
    have hi7 := Hi4.out.turn (grown_setCell w' K 0 (.int .i64 0)) (fun g e => by cases e; exact Nat.le_refl _)
    have hi8 := hi7.turn (grown_alloc (w'.setCell ⟨K, 0, none⟩ (.int .i64 0)) (.cells #[.int .i64 st] 3)) (fun g e => by cases e)
    have hKw : K < w'.heap.size := World.block_lt_of_cell? _ _ hn4
    have hn7 : (w'.alloc (.cells #[.int .i64 st] 3)).cell? ⟨K, 0, none⟩ = some (.int .i64 N) := ((Bel.new w' _).cell (p := ⟨K, 0, none⟩) hKw).trans hn4
    have hf7 : (w'.alloc (.cells #[.int .i64 st] 3)).frozen? ⟨K, 0, none⟩ = false := ((Bel.new w' _).frozen (p := ⟨K, 0, none⟩) hKw).trans hf4
    have hac8 := hi8.ac
    have Hi8 := Lib.hid hi8
    clear hpk hac hcc hi7 hi8
    gi_wp2_with fail
    clear hac8 hn7 hf7
    obtain ⟨w8, hw8⟩ : ∃ w8, w8 = (w'.setCell ⟨K, 0, none⟩ (.int .i64 0)).alloc (.cells #[.int .i64 st] 3) := ⟨_, rfl⟩
    obtain ⟨SB, hSB⟩ : ∃ SB, SB = w'.heap.size := ⟨_, rfl⟩
    have hsz8 : w8.heap.size = SB + 1 := by rw [hw8, hSB]; simp [World.setCell]
    have hss : (w'.setCell ⟨K, 0, none⟩ (.int .i64 0)).heap.size = w'.heap.size := by simp [World.setCell]
    have hn8 : w8.cell? ⟨K, 0, none⟩ = some (.int .i64 0) := by
      rw [hw8]; exact ((Bel.new (w'.setCell ⟨K, 0, none⟩ (.int .i64 0)) (.cells #[.int .i64 st] 3)).cell (p := ⟨K, 0, none⟩) (by rw [hss]; exact hKw)).trans (World.cell?_setCell_same' _ _ _ (by rw [hn4]; rfl))
    have hf8 : w8.frozen? ⟨K, 0, none⟩ = false := by
      rw [hw8]; exact ((Bel.new (w'.setCell ⟨K, 0, none⟩ (.int .i64 0)) (.cells #[.int .i64 st] 3)).frozen (p := ⟨K, 0, none⟩) (by rw [hss]; exact hKw)).trans (by rw [World.frozen?_setCell]; exact hf4)
    have hst8 : w8.cell? ⟨SB, 0, none⟩ = some (.int .i64 st) := by
      rw [hw8, hSB, ← hss]; exact cells_new _ _ _ 0 _ rfl
    have hd8 : w8.heap[D]? = some (.deferred (some [])) := by
      rw [hw8]; exact ((KeepsOthers.setCell w' ⟨K, 0, none⟩ (.int .i64 0)).trans (KeepsOthers.alloc _ _)).same _ _ Hd.out rfl
    have hDS : D < SB := by rw [hSB]; exact (Array.getElem?_eq_some_iff.1 Hd.out).1
    have hKS : K < SB := by omega
    rw [← hw8, ← hSB]
    rw [← hw8] at Hi8
    have hszA : w8.heap.size ≤ SB + 1 := by omega
    have hszB : SB + 1 ≤ w8.heap.size := by omega
    clear hsz8 hSB
    have H8 := Lib.hid (And.intro Hi8.out (And.intro hn8 (And.intro hf8 (And.intro hst8 hd8))))
    have hstN : st ≤ N := by omega
    clear hn8 hf8 hst8 hd8 Hi8 hn4 hf4 Hi4 Hd hss hKw hst hKl
    refine range_to (gf := 58) (lb := #[.pointer (some ⟨bx, 0, none⟩), .pointer (some ⟨bx + 1, 0, none⟩)]) rfl (enters_of Try.func58 (by kernel_rfl) rfl) (encs := encW) (fun _ => rfl) (walk l).1 _ _
      (through_seq 19 (by omega) bx (bx + 1) 51 #[] u l (fun A B => B = A) (enters_of Try.func51 (by kernel_rfl) rfl))
      (fun A B h => by rw [h]; exact KeepsOthers.refl _)
      (fun pre W => pre.length ≤ st ∧ WkI w K w.heap.size w1.heap.size (w1.heap.size + 1) w3.heap.size bx (.slice a1 N c1) (.slice a2 N c2) u l W ∧ W.cell? ⟨K, 0, none⟩ = some (.int .i64 pre.length) ∧ W.frozen? ⟨K, 0, none⟩ = false ∧ W.cell? ⟨SB, 0, none⟩ = some (.int .i64 st) ∧ W.heap[D]? = some (.deferred (some [])))
      (fun c W => c = .exit 2 ∧ WkI w K w.heap.size w1.heap.size (w1.heap.size + 1) w3.heap.size bx (.slice a1 N c1) (.slice a2 N c2) u l W ∧ W.cell? ⟨K, 0, none⟩ = some (.int .i64 st) ∧ W.frozen? ⟨K, 0, none⟩ = false ∧ W.cell? ⟨SB, 0, none⟩ = some (.int .i64 st) ∧ W.heap[D]? = some (.deferred (some [])))
      (fun d A B h k => ⟨h.1, h.2.1.calm k (by have := h.2.1.kw; omega), k.cell h.2.2.1, (k.frozen h.2.2.1).trans h.2.2.2.1, k.cell h.2.2.2.2.1, (k.block D (by omega)).trans h.2.2.2.2.2⟩)
      (fun c A B h k => ⟨h.1, h.2.1.calm k (by have := h.2.1.kw; omega), k.cell h.2.2.1, (k.frozen h.2.2.1).trans h.2.2.2.1, k.cell h.2.2.2.2.1, (k.block D (by omega)).trans h.2.2.2.2.2⟩)
      (fun d A h => h.2.1.iter Hlt.out 19) ⟨Nat.zero_le _, H8.out⟩ ?round2 ?done2 ?stop2
    case round2 =>
      rintro l' pre ⟨p, o, x⟩ rest W hx hi hsz
      obtain ⟨hps, hi⟩ := hi
      clear H8
      have hpl : pre.length < N := by rw [HN.out, hx]; simp
      simp only [encW, instrVal]
      gi_wp2
      refine ⟨KeepsOthers.alloc _ _, fun W2 hs2 hc2 => ?_⟩
      have hcal := (Calm.of (Bel.new W (.cells #[.int .u8 o, .int .u32 x] 36)) hsz).trans hc2
      have hi2 := hi.1.calm hcal (by have := hi.1.kw; omega)
      have hn2 := hcal.cell hi.2.1
      have hf2 := (hcal.frozen hi.2.1).trans hi.2.2.1
      have hs2' := hcal.cell hi.2.2.2.1
      have hdd := (hcal.block D (by omega)).trans hi.2.2.2.2
      have hb0 : W2.cell? ⟨W.heap.size, 0, none⟩ = some (.int .u8 o) := hc2.cell (by simp [go_sem])
      have hb1 : W2.cell? ⟨W.heap.size, 1, none⟩ = some (.int .u32 x) := hc2.cell (by simp [go_sem])
      obtain ⟨g1, g2, rfl, rfl, e1, e2, e3⟩ := hi2.at hx HN.out.symm
      have hp := hi2.pc
      have hcc := hi2.cc
      have q0 : (pre.length : Int) < (N : Int) := by omega
      have q1 : (0 : Int) ≤ (pre.length : Int) := by omega
      have q2 : (pre.length : Int) ≤ 16384 := by omega
      have Hi2 := Lib.hid hi2
      have Hdd := Lib.hid hdd
      generalize hk : pre.length = k at *
      have Hk := Lib.hid hk
      clear hi hi2 hcal hc2 hk hx hdd
      by_cases hks : k = st
      · subst hks
        gi_wp2
        exact ⟨KeepsOthers.refl _, rfl, Hi2.out, hn2, hf2, hs2', Hdd.out⟩
      · have hd1 : (k == st) = false := by simpa using hks
        have hd1' : ((k : Int) == (st : Int)) = false := by simp; omega
        have hd : decide (st < k) = false := decide_eq_false (by omega)
        gi_wp2_with fail
        refine wpIn_region_quietR_lit (by kernel_rfl) (by kernel_rfl) (by kernel_rfl) ?_
        repeat (gi_big_quiet_step (fail))
        refine wpQuietIn_nil ?_
        intro _ hw'
        obtain ⟨nq, hw''⟩ := hw'
        subst hw''
        gi_wp2
        have hst := grownBy_trans (grown_drewN W2 nq (some K)) (grown_setCell (W2.drewN nq) K 0 (.int .i64 ((k : Int) + 1))) (fun q e => .inl e)
        have hko := (KeepsOthers.drewN W2 nq).trans (KeepsOthers.setCell (W2.drewN nq) ⟨K, 0, none⟩ (.int .i64 ((k : Int) + 1)))
        refine ⟨hko, by rw [List.length_append, Hk.out]; show k + 1 ≤ st; omega, Hi2.out.turn hst (fun q e => by cases e; exact Nat.le_refl _), ?_, ?_, ?_, ?_⟩
        · rw [List.length_append, Hk.out]; exact World.cell?_setCell_same' _ _ _ (by show (W2.cell? ⟨K, 0, none⟩).isSome = true; rw [hn2]; rfl)
        · rw [World.frozen?_setCell]; exact hf2
        · exact (World.cell?_of_block (Below.heap_setCell _ _ _ _ (by show SB ≠ K; omega))).trans hs2'
        · exact hko.same _ _ Hdd.out rfl
    case done2 =>
      rintro D2 W2 W3 W4 hi rfl hc hD2 hd2
      obtain ⟨hps, hi, hn, hf, hsb, hdd⟩ := hi
      rw [← HN.out] at hps hn
      have hNe : N = st := by omega
      rw [hNe] at hn
      clear hNe
      rename_i Kx hKx
      refine hKx _ _ ?_
      clear hKx Kx
      have hI4 := And.intro (hi.calm hc (by have := hi.kw; omega)) (And.intro (hc.cell hn) (And.intro ((hc.frozen hn).trans hf) (And.intro (hc.cell hsb) (And.intro ((hc.block D (by omega)).trans hdd) hd2))))
      clear hi hn hf hsb hdd hd2 hc hps
      clear H8
      obtain ⟨hi4, hn4, hf4, hsb4, hd4, hd24⟩ := hI4
      have hDl : D < W4.heap.size := (Array.getElem?_eq_some_iff.1 hd4).1
      have hD2l : D2 < W4.heap.size := (Array.getElem?_eq_some_iff.1 hd24).1
      have hkl := hi4.kl
      have hi5 := hi4.turn (grown_setCell W4 K 0 (.int .i64 0)) (fun g e => by cases e; exact Nat.le_refl _)
      have hac5 := hi5.ac
      have hn5 : (W4.setCell ⟨K, 0, none⟩ (.int .i64 0)).cell? ⟨K, 0, none⟩ = some (.int .i64 0) := World.cell?_setCell_same' _ _ _ (by rw [hn4]; rfl)
      have hf5 : (W4.setCell ⟨K, 0, none⟩ (.int .i64 0)).frozen? ⟨K, 0, none⟩ = false := by rw [World.frozen?_setCell]; exact hf4
      have hd5 := (KeepsOthers.setCell W4 ⟨K, 0, none⟩ (.int .i64 0)).same _ _ hd4 rfl
      have hd25 := (KeepsOthers.setCell W4 ⟨K, 0, none⟩ (.int .i64 0)).same _ _ hd24 rfl
      have H5 := Lib.hid (And.intro hi5 (And.intro hn5 (And.intro hf5 (And.intro hd5 hd25))))
      have hsz5 : W4.heap.size ≤ (W4.setCell ⟨K, 0, none⟩ (.int .i64 0)).heap.size := by simp [World.setCell]
      clear hi4 hi5 hn5 hf5 hd5 hd25 hd4 hd24
      gi_wp2_with fail
      clear hac5 hn4 hf4 hsb4
      generalize W4.setCell ⟨K, 0, none⟩ (.int .i64 0) = w9 at *
      refine range_to2 (gf := 58) (lb := #[.pointer (some ⟨bx, 0, none⟩), .pointer (some ⟨bx + 1, 0, none⟩)]) rfl (enters_of Try.func58 (by kernel_rfl) rfl) (encs := encW) (fun _ => rfl) (walk l).1 _ _
        (through_seq 19 (by omega) bx (bx + 1) 51 #[] u l (fun A B => B = A) (enters_of Try.func51 (by kernel_rfl) rfl))
        (fun A B h => by rw [h]; exact KeepsOthers.refl _)
        (fun pre W => pre.length ≤ 40 ∧ WkI w K w.heap.size w1.heap.size (w1.heap.size + 1) w3.heap.size bx (.slice a1 N c1) (.slice a2 N c2) u l W ∧ W.cell? ⟨K, 0, none⟩ = some (.int .i64 pre.length) ∧ W.frozen? ⟨K, 0, none⟩ = false ∧ W.heap[D]? = some (.deferred (some [])) ∧ W.heap[D2]? = some (.deferred (some [])))
        (fun c W => c = .exit 4 ∧ WkI w K w.heap.size w1.heap.size (w1.heap.size + 1) w3.heap.size bx (.slice a1 N c1) (.slice a2 N c2) u l W ∧ W.heap[D]? = some (.deferred (some [])) ∧ W.heap[D2]? = some (.deferred (some [])))
        (fun d A B h k => ⟨h.1, h.2.1.calm k (by have := h.2.1.kw; omega), k.cell h.2.2.1, (k.frozen h.2.2.1).trans h.2.2.2.1, (k.block D (by omega)).trans h.2.2.2.2.1, (k.block D2 (by omega)).trans h.2.2.2.2.2⟩)
        (fun c A B h k => ⟨h.1, h.2.1.calm k (by have := h.2.1.kw; omega), (k.block D (by omega)).trans h.2.2.1, (k.block D2 (by omega)).trans h.2.2.2⟩)
        (fun d A h => h.2.1.iter Hlt.out 19) ⟨Nat.zero_le _, H5.out⟩ ?round3a ?done3a ?stop3a
      case round3a =>
        rintro l' pre ⟨p, o, x⟩ rest W hx hi hsz
        obtain ⟨hps, hi⟩ := hi
        clear H5
        have hpl : pre.length < N := by rw [HN.out, hx]; simp
        simp only [encW, instrVal]
        gi_wp2
        refine ⟨KeepsOthers.alloc _ _, fun W2 hs2 hc2 hll hrec => ?_⟩
        have hcal := (Calm.of (Bel.new W (.cells #[.int .u8 o, .int .u32 x] 36)) hsz).trans hc2
        have hi2 := hi.1.calm hcal (by have := hi.1.kw; omega)
        have hn2 := hcal.cell hi.2.1
        have hf2 := (hcal.frozen hi.2.1).trans hi.2.2.1
        have hdd := (hcal.block D (by omega)).trans hi.2.2.2.1
        have hdd2 := (hcal.block D2 (by omega)).trans hi.2.2.2.2
        have hb0 : W2.cell? ⟨W.heap.size, 0, none⟩ = some (.int .u8 o) := hc2.cell (by simp [go_sem])
        have hb1 : W2.cell? ⟨W.heap.size, 1, none⟩ = some (.int .u32 x) := hc2.cell (by simp [go_sem])
        obtain ⟨g1, g2, rfl, rfl, e1, e2, e3⟩ := hi2.at hx HN.out.symm
        have hp := hi2.pc
        have hcc := hi2.cc
        have hK2 : K < W2.heap.size := World.block_lt_of_cell? _ _ hn2
        have q0 : (pre.length : Int) < (N : Int) := by omega
        have q1 : (0 : Int) ≤ (pre.length : Int) := by omega
        have q2 : (pre.length : Int) ≤ 16384 := by omega
        have Hi2 := Lib.hid hi2
        have Hdd := Lib.hid (And.intro hdd hdd2)
        have Hrec := Lib.hid hrec
        generalize hk : pre.length = k at *
        have hd : decide (N ≤ k) = false := decide_eq_false (by omega)
        have Hk := Lib.hid hk
        clear hi hi2 hcal hc2 hk hx hdd hdd2 hrec
        gi_wp2_with fail
        refine wpIn_region_quietR_lit (by kernel_rfl) (by kernel_rfl) (by kernel_rfl) ?_
        repeat (gi_big_quiet_step (fail))
        refine wpQuietIn_nil ?_
        intro _ hw'
        obtain ⟨nq, hw''⟩ := hw'
        subst hw''
        have hi3 := Hi2.out.turn (grown_drewN W2 nq none) (fun g e => by cases e)
        have hn3 : (W2.drewN nq).cell? ⟨K, 0, none⟩ = some (.int .i64 k) := hn2
        have hf3 : (W2.drewN nq).frozen? ⟨K, 0, none⟩ = false := hf2
        have hK3 : K < (W2.drewN nq).heap.size := hK2
        have hko3 := KeepsOthers.drewN W2 nq
        obtain ⟨r0, hr0⟩ := Hrec.out
        have hr3 : (W2.drewN nq).heap[l']? = some (.loop r0) := hr0
        have hs3 : W2.heap.size ≤ (W2.drewN nq).heap.size := Nat.le_refl _
        clear hn2 hf2 hb0 hb1 e1 e2 e3 hp hcc hr0 hK2 Hrec
        generalize W2.drewN nq = W3 at *
        have hnew := Bel.new W3 (.cells #[.int .i64 0] 3)
        have hac4 := (hnew.cell (p := ⟨w3.heap.size, 0, none⟩) (World.block_lt_of_cell? _ _ hi3.ac)).trans hi3.ac
        have hi4 := hi3.turn (grown_alloc W3 (.cells #[.int .i64 0] 3)) (fun g e => by cases e)
        have hn4 := (hnew.cell (p := ⟨K, 0, none⟩) hK3).trans hn3
        have hf4 := (hnew.frozen (p := ⟨K, 0, none⟩) hK3).trans hf3
        have hm4 : (W3.alloc (.cells #[.int .i64 0] 3)).cell? ⟨W3.heap.size, 0, none⟩ = some (.int .i64 0) := by simp [go_sem]
        have hmf4 : (W3.alloc (.cells #[.int .i64 0] 3)).frozen? ⟨W3.heap.size, 0, none⟩ = false := by simp [go_sem]
        have hko4 := hko3.trans (KeepsOthers.alloc W3 (.cells #[.int .i64 0] 3))
        have hr4 : (W3.alloc (.cells #[.int .i64 0] 3)).heap[l']? = some (.loop r0) := (Below.heap_alloc W3 _ l' (Array.getElem?_eq_some_iff.1 hr3).1).trans hr3
        have hKl4 := hi4.kl
        have hs4a : (W3.alloc (.cells #[.int .i64 0] 3)).heap.size ≤ W3.heap.size + 1 := by simp
        have hs4b : W3.heap.size + 1 ≤ (W3.alloc (.cells #[.int .i64 0] 3)).heap.size := by simp
        have H4 := Lib.hid (And.intro hi4 (And.intro hn4 (And.intro hf4 (And.intro hm4 (And.intro hmf4 (KeepsOthers.refl (W3.alloc (.cells #[.int .i64 0] 3))))))))
        have Hr4 := Lib.hid hr4
        have Hko4 := Lib.hid hko4
        clear hi3 hi4 hn3 hn4 hf3 hf4 hm4 hmf4 hnew hko3 hko4 hr3 hr4
        gi_wp2_with fail
        clear hac4
        obtain ⟨MB, hMB⟩ : ∃ MB, MB = W3.heap.size := ⟨_, rfl⟩
        rw [← hMB] at hs4a hs4b hK3 H4 ⊢
        clear hMB hs3 
        generalize W3.alloc (.cells #[.int .i64 0] 3) = w10 at *
        refine range_in (gf := 58) (lb := #[.pointer (some ⟨bx, 0, none⟩), .pointer (some ⟨bx + 1, 0, none⟩)]) (r₀ := r0) Hr4.out rfl (enters_of Try.func58 (by kernel_rfl) rfl) (encs := encW) (fun _ => rfl) (walk l).1 _ _
          (through_seq 17 (by omega) bx (bx + 1) 51 #[] u l (fun A B => B = A) (enters_of Try.func51 (by kernel_rfl) rfl))
          (fun A B h => by rw [h]; exact KeepsOthers.refl _)
          (fun pre2 W => pre2.length ≤ k + 1 ∧ WkI w K w.heap.size w1.heap.size (w1.heap.size + 1) w3.heap.size bx (.slice (some ⟨g1, 0, none⟩) N c1) (.slice (some ⟨g2, 0, none⟩) N c2) u l W ∧ W.cell? ⟨K, 0, none⟩ = some (.int .i64 k) ∧ W.frozen? ⟨K, 0, none⟩ = false ∧ W.cell? ⟨MB, 0, none⟩ = some (.int .i64 pre2.length) ∧ W.frozen? ⟨MB, 0, none⟩ = false ∧ KeepsOthers w10 W)
          (fun c W => c = .exit 6 ∧ WkI w K w.heap.size w1.heap.size (w1.heap.size + 1) w3.heap.size bx (.slice (some ⟨g1, 0, none⟩) N c1) (.slice (some ⟨g2, 0, none⟩) N c2) u l W ∧ W.cell? ⟨K, 0, none⟩ = some (.int .i64 k) ∧ W.frozen? ⟨K, 0, none⟩ = false ∧ KeepsOthers w10 W)
          (fun d A B h k => ⟨h.1, h.2.1.calm k (by have := h.2.1.kw; omega), k.cell h.2.2.1, (k.frozen h.2.2.1).trans h.2.2.2.1, k.cell h.2.2.2.2.1, (k.frozen h.2.2.2.2.1).trans h.2.2.2.2.2.1, keeps_calm h.2.2.2.2.2.2 k⟩)
          (fun c A B h k => ⟨h.1, h.2.1.calm k (by have := h.2.1.kw; omega), k.cell h.2.2.1, (k.frozen h.2.2.1).trans h.2.2.2.1, keeps_calm h.2.2.2.2 k⟩)
          (fun d A h => h.2.1.iter Hlt.out 17) ⟨Nat.zero_le _, H4.out⟩ ?round4a ?done4a ?stop4a
        case round4a =>
          rintro l'' pre2 ⟨p2, o2, x2⟩ rest2 W hx2 hi hsz2
          obtain ⟨hps2, hi⟩ := hi
          clear H4
          have hpl2 : pre2.length < N := by rw [HN.out, hx2]; simp
          simp only [encW, instrVal]
          gi_wp2
          refine ⟨KeepsOthers.alloc _ _, fun W5 hs5 hc5 => ?_⟩
          have hcal := (Calm.of (Bel.new W (.cells #[.int .u8 o2, .int .u32 x2] 36)) hsz2).trans hc5
          have hi5 := hi.1.calm hcal (by have := hi.1.kw; omega)
          have hn5 := hcal.cell hi.2.1
          have hf5 := (hcal.frozen hi.2.1).trans hi.2.2.1
          have hm5 := hcal.cell hi.2.2.2.1
          have hmf5 := (hcal.frozen hi.2.2.2.1).trans hi.2.2.2.2.1
          have hko5 := keeps_calm hi.2.2.2.2.2 hcal
          have hb0 : W5.cell? ⟨W.heap.size, 0, none⟩ = some (.int .u8 o2) := hc5.cell (by simp [go_sem])
          have hb1 : W5.cell? ⟨W.heap.size, 1, none⟩ = some (.int .u32 x2) := hc5.cell (by simp [go_sem])
          obtain ⟨g1', g2', eg1, eg2, e1, e2, e3⟩ := hi5.at hx2 HN.out.symm
          cases eg1
          cases eg2
          have hp := hi5.pc
          have hcc := hi5.cc
          have q0' : (pre2.length : Int) < (N : Int) := by omega
          have q1' : (0 : Int) ≤ (pre2.length : Int) := by omega
          have q2' : (pre2.length : Int) ≤ 16384 := by omega
          have Hi5 := Lib.hid hi5
          have Hko5 := Lib.hid hko5
          generalize hj : pre2.length = j at *
          have Hj := Lib.hid hj
          clear hi hi5 hcal hc5 hj hx2 hko5
          by_cases hkj : k < j
          · have hd3 : decide (k < j) = true := decide_eq_true hkj
            gi_wp2
            exact ⟨KeepsOthers.refl _, rfl, Hi5.out, hn5, hf5, Hko5.out⟩
          · have hd3 : decide (k < j) = false := decide_eq_false hkj
            gi_wp2_with fail
            refine wpIn_region_quietR_lit (by kernel_rfl) (by kernel_rfl) (by kernel_rfl) ?_
            repeat (gi_big_quiet_step (fail))
            refine wpQuietIn_nil ?_
            intro _ hw'
            obtain ⟨nq2, hw''⟩ := hw'
            subst hw''
            gi_wp2
            have hst := grownBy_trans (grown_drewN W5 nq2 (some MB)) (grown_setCell (W5.drewN nq2) MB 0 (.int .i64 ((j : Int) + 1))) (fun q e => .inl e)
            have hko := (KeepsOthers.drewN W5 nq2).trans (KeepsOthers.setCell (W5.drewN nq2) ⟨MB, 0, none⟩ (.int .i64 ((j : Int) + 1)))
            refine ⟨hko, by rw [List.length_append, Hj.out]; show j + 1 ≤ k + 1; omega, Hi5.out.turn hst (fun q e => by cases e; omega), ?_, ?_, ?_, ?_, Hko5.out.trans hko⟩
            · exact (World.cell?_of_block (Below.heap_setCell _ _ _ _ (by show K ≠ MB; omega))).trans hn5
            · rw [World.frozen?_setCell]; exact hf5
            · rw [List.length_append, Hj.out]; exact World.cell?_setCell_same' _ _ _ (by show (W5.cell? ⟨MB, 0, none⟩).isSome = true; rw [hm5]; rfl)
            · rw [World.frozen?_setCell]; exact hmf5
        case' done4a =>
          rintro W6 W7 W8 hi rfl hc
          obtain ⟨-, hi, hn, hf, -, -, hko⟩ := hi
          rename_i Kx hKx
          refine hKx _ _ ?_
          clear hKx Kx
          have hI4 := And.intro (hi.calm hc (by have := hi.kw; omega)) (And.intro (hc.cell hn) (And.intro ((hc.frozen hn).trans hf) (keeps_calm hko hc)))
          clear hi hn hf hko hc
        case' stop4a =>
          rintro c W8 ⟨rfl, hi, hn, hf, hko⟩
          have hI4 := And.intro hi (And.intro hn (And.intro hf hko))
          clear hi hn hf hko
        all_goals
          clear H4
          obtain ⟨hi4, hn4, hf4, hko⟩ := hI4
          have hi5 := hi4.turn (grown_setCell W8 K 0 (.int .i64 ((k : Int) + 1))) (fun g e => by cases e; exact Nat.le_refl _)
          have hn5 : (W8.setCell ⟨K, 0, none⟩ (.int .i64 ((k : Int) + 1))).cell? ⟨K, 0, none⟩ = some (.int .i64 ((k : Int) + 1)) := World.cell?_setCell_same' _ _ _ (by rw [hn4]; rfl)
          have hf5 : (W8.setCell ⟨K, 0, none⟩ (.int .i64 ((k : Int) + 1))).frozen? ⟨K, 0, none⟩ = false := by rw [World.frozen?_setCell]; exact hf4
          have hko5 := (Hko4.out.trans hko).trans (KeepsOthers.setCell W8 ⟨K, 0, none⟩ (.int .i64 ((k : Int) + 1)))
          have hdd5 := hko5.same _ _ Hdd.out.1 rfl
          have hdd25 := hko5.same _ _ Hdd.out.2 rfl
          have H5 := Lib.hid (And.intro hi5 (And.intro hn5 (And.intro hf5 (And.intro hdd5 hdd25))))
          have HK5 := Lib.hid hko5
          clear hi4 hi5 hn5 hf5 hko hko5 hdd5 hdd25
          by_cases h40 : k < 40
          · have hd4 : decide (40 < (k : Int) + 1) = false := decide_eq_false (by omega)
            gi_wp2
            exact ⟨HK5.out, by rw [List.length_append, Hk.out]; show k + 1 ≤ 40; omega, H5.out.1, by rw [List.length_append, Hk.out]; exact H5.out.2.1, H5.out.2.2.1, H5.out.2.2.2.1, H5.out.2.2.2.2⟩
          · have hd4 : decide (40 < (k : Int) + 1) = true := decide_eq_true (by omega)
            gi_wp2
            exact ⟨HK5.out, rfl, H5.out.1, H5.out.2.2.2.1, H5.out.2.2.2.2⟩
      case' done3a =>
        rintro D3 W2 W3 W4' hi rfl hc hD3 hd3
        obtain ⟨-, hi, -, -, hdd, hdd2⟩ := hi
        rename_i Kx hKx
        refine hKx _ _ ?_
        clear hKx Kx
        have hI4 := And.intro (hi.calm hc (by have := hi.kw; omega)) (And.intro ((hc.block D (by omega)).trans hdd) (And.intro ((hc.block D2 (by omega)).trans hdd2) hd3))
        clear hi hdd hdd2 hc
      case' stop3a =>
        rintro D3 c W4' ⟨rfl, hi, hdd, hdd2⟩ hD3 hd3
        have hI4 := And.intro hi (And.intro hdd (And.intro hdd2 hd3))
        clear hi hdd hdd2
      all_goals
        clear H5
        obtain ⟨hi4, hdd4, hdd24, hd34⟩ := hI4
        have hr4 := hi4.rr
        have hrf4 := hi4.rf
        have hdne : D ≠ D2 ∧ D2 ≠ D3 ∧ D ≠ D3 := by refine ⟨?_, ?_, ?_⟩ <;> omega
        have Hi4 := Lib.hid hi4
        clear hi4
        gi_wp2
        have hset := KeepsOthers.setCell W4' ⟨w.heap.size, 0, none⟩ (.bool true)
        have h30 := hset.same _ _ hd34 rfl
        have h20 := (World.putObj_heap_other (o := .deferred none) (w := W4'.setCell ⟨w.heap.size, 0, none⟩ (.bool true)) (show D2 ≠ D3 from hdne.2.1)).trans (hset.same _ _ hdd24 rfl)
        have h10 := (World.putObj_heap_other (o := .deferred none) (w := (W4'.setCell ⟨w.heap.size, 0, none⟩ (.bool true)).putObj D3 (.deferred none)) (show D ≠ D2 from hdne.1)).trans ((World.putObj_heap_other (o := .deferred none) (w := W4'.setCell ⟨w.heap.size, 0, none⟩ (.bool true)) (show D ≠ D3 from hdne.2.2)).trans (hset.same _ _ hdd4 rfl))
        clear hset
        refine ⟨by simp, .inl ⟨_, _, rfl, run_takeDeferred (h30), ?_⟩⟩
        refine ⟨by simp, .inl ⟨_, _, rfl, run_takeDeferred (h20), ?_⟩⟩
        refine ⟨by simp, .inl ⟨_, _, rfl, run_takeDeferred (h10), ?_⟩⟩
        have hbs := Hi4.out.below.setCell (p := ⟨w.heap.size, 0, none⟩) (Nat.le_refl _) (.bool true)
        have hc0 : (W4'.setCell ⟨w.heap.size, 0, none⟩ (.bool true)).cell? ⟨w.heap.size, 0, none⟩ = some (.bool true) := World.cell?_setCell_same' _ _ _ (by rw [Hi4.out.rr]; rfl)
        have hwk := Hi4.out.kw
        have hlt0 := Hi4.out.lt.1
        have hwD : w.heap.size < D ∧ w.heap.size < D2 ∧ w.heap.size < D3 := by refine ⟨?_, ?_, ?_⟩ <;> omega
        have k3 := Calm.putObj (B := w.heap.size) _ (.deferred none) h30 rfl (by omega)
        have k2 := Calm.putObj (B := w.heap.size) _ (.deferred none) h20 rfl (by omega)
        have k1 := Calm.putObj (B := w.heap.size) _ (.deferred none) h10 rfl (by omega)
        have hcv := k1.cell (k2.cell (k3.cell hc0))
        have hbf := Calm.below (Calm.below (Calm.below hbs k3) k2) k1
        refine ⟨.bool true, ?_, rfl, hbf⟩
        clear k1 k2 k3 hbf hbs hc0 hr4 hrf4 h10 h20 h30
        simp [results, Try.results9, go_sem, hcv]
    case stop2 =>
      rintro D2 c W4 ⟨rfl, hi, hn, hf, hsb, hdd⟩ hD2 hd2
      have hI4 := And.intro hi (And.intro hn (And.intro hf (And.intro hsb (And.intro hdd hd2))))
      clear hi hn hf hsb hdd hd2
      clear H8
      obtain ⟨hi4, hn4, hf4, hsb4, hd4, hd24⟩ := hI4
      have hDl : D < W4.heap.size := (Array.getElem?_eq_some_iff.1 hd4).1
      have hD2l : D2 < W4.heap.size := (Array.getElem?_eq_some_iff.1 hd24).1
      have hkl := hi4.kl
      have hi5 := hi4.turn (grown_setCell W4 K 0 (.int .i64 0)) (fun g e => by cases e; exact Nat.le_refl _)
      have hac5 := hi5.ac
      have hn5 : (W4.setCell ⟨K, 0, none⟩ (.int .i64 0)).cell? ⟨K, 0, none⟩ = some (.int .i64 0) := World.cell?_setCell_same' _ _ _ (by rw [hn4]; rfl)
      have hf5 : (W4.setCell ⟨K, 0, none⟩ (.int .i64 0)).frozen? ⟨K, 0, none⟩ = false := by rw [World.frozen?_setCell]; exact hf4
      have hd5 := (KeepsOthers.setCell W4 ⟨K, 0, none⟩ (.int .i64 0)).same _ _ hd4 rfl
      have hd25 := (KeepsOthers.setCell W4 ⟨K, 0, none⟩ (.int .i64 0)).same _ _ hd24 rfl
      have H5 := Lib.hid (And.intro hi5 (And.intro hn5 (And.intro hf5 (And.intro hd5 hd25))))
      have hsz5 : W4.heap.size ≤ (W4.setCell ⟨K, 0, none⟩ (.int .i64 0)).heap.size := by simp [World.setCell]
      clear hi4 hi5 hn5 hf5 hd5 hd25 hd4 hd24
      gi_wp2_with fail
      clear hac5 hn4 hf4 hsb4
      generalize W4.setCell ⟨K, 0, none⟩ (.int .i64 0) = w9 at *
      refine range_to2 (gf := 58) (lb := #[.pointer (some ⟨bx, 0, none⟩), .pointer (some ⟨bx + 1, 0, none⟩)]) rfl (enters_of Try.func58 (by kernel_rfl) rfl) (encs := encW) (fun _ => rfl) (walk l).1 _ _
        (through_seq 19 (by omega) bx (bx + 1) 51 #[] u l (fun A B => B = A) (enters_of Try.func51 (by kernel_rfl) rfl))
        (fun A B h => by rw [h]; exact KeepsOthers.refl _)
        (fun pre W => pre.length ≤ 40 ∧ WkI w K w.heap.size w1.heap.size (w1.heap.size + 1) w3.heap.size bx (.slice a1 N c1) (.slice a2 N c2) u l W ∧ W.cell? ⟨K, 0, none⟩ = some (.int .i64 pre.length) ∧ W.frozen? ⟨K, 0, none⟩ = false ∧ W.heap[D]? = some (.deferred (some [])) ∧ W.heap[D2]? = some (.deferred (some [])))
        (fun c W => c = .exit 4 ∧ WkI w K w.heap.size w1.heap.size (w1.heap.size + 1) w3.heap.size bx (.slice a1 N c1) (.slice a2 N c2) u l W ∧ W.heap[D]? = some (.deferred (some [])) ∧ W.heap[D2]? = some (.deferred (some [])))
        (fun d A B h k => ⟨h.1, h.2.1.calm k (by have := h.2.1.kw; omega), k.cell h.2.2.1, (k.frozen h.2.2.1).trans h.2.2.2.1, (k.block D (by omega)).trans h.2.2.2.2.1, (k.block D2 (by omega)).trans h.2.2.2.2.2⟩)
        (fun c A B h k => ⟨h.1, h.2.1.calm k (by have := h.2.1.kw; omega), (k.block D (by omega)).trans h.2.2.1, (k.block D2 (by omega)).trans h.2.2.2⟩)
        (fun d A h => h.2.1.iter Hlt.out 19) ⟨Nat.zero_le _, H5.out⟩ ?round3b ?done3b ?stop3b
      case round3b =>
        rintro l' pre ⟨p, o, x⟩ rest W hx hi hsz
        obtain ⟨hps, hi⟩ := hi
        clear H5
        have hpl : pre.length < N := by rw [HN.out, hx]; simp
        simp only [encW, instrVal]
        gi_wp2
        refine ⟨KeepsOthers.alloc _ _, fun W2 hs2 hc2 hll hrec => ?_⟩
        have hcal := (Calm.of (Bel.new W (.cells #[.int .u8 o, .int .u32 x] 36)) hsz).trans hc2
        have hi2 := hi.1.calm hcal (by have := hi.1.kw; omega)
        have hn2 := hcal.cell hi.2.1
        have hf2 := (hcal.frozen hi.2.1).trans hi.2.2.1
        have hdd := (hcal.block D (by omega)).trans hi.2.2.2.1
        have hdd2 := (hcal.block D2 (by omega)).trans hi.2.2.2.2
        have hb0 : W2.cell? ⟨W.heap.size, 0, none⟩ = some (.int .u8 o) := hc2.cell (by simp [go_sem])
        have hb1 : W2.cell? ⟨W.heap.size, 1, none⟩ = some (.int .u32 x) := hc2.cell (by simp [go_sem])
        obtain ⟨g1, g2, rfl, rfl, e1, e2, e3⟩ := hi2.at hx HN.out.symm
        have hp := hi2.pc
        have hcc := hi2.cc
        have hK2 : K < W2.heap.size := World.block_lt_of_cell? _ _ hn2
        have q0 : (pre.length : Int) < (N : Int) := by omega
        have q1 : (0 : Int) ≤ (pre.length : Int) := by omega
        have q2 : (pre.length : Int) ≤ 16384 := by omega
        have Hi2 := Lib.hid hi2
        have Hdd := Lib.hid (And.intro hdd hdd2)
        have Hrec := Lib.hid hrec
        generalize hk : pre.length = k at *
        have hd : decide (N ≤ k) = false := decide_eq_false (by omega)
        have Hk := Lib.hid hk
        clear hi hi2 hcal hc2 hk hx hdd hdd2 hrec
        gi_wp2_with fail
        refine wpIn_region_quietR_lit (by kernel_rfl) (by kernel_rfl) (by kernel_rfl) ?_
        repeat (gi_big_quiet_step (fail))
        refine wpQuietIn_nil ?_
        intro _ hw'
        obtain ⟨nq, hw''⟩ := hw'
        subst hw''
        have hi3 := Hi2.out.turn (grown_drewN W2 nq none) (fun g e => by cases e)
        have hn3 : (W2.drewN nq).cell? ⟨K, 0, none⟩ = some (.int .i64 k) := hn2
        have hf3 : (W2.drewN nq).frozen? ⟨K, 0, none⟩ = false := hf2
        have hK3 : K < (W2.drewN nq).heap.size := hK2
        have hko3 := KeepsOthers.drewN W2 nq
        obtain ⟨r0, hr0⟩ := Hrec.out
        have hr3 : (W2.drewN nq).heap[l']? = some (.loop r0) := hr0
        have hs3 : W2.heap.size ≤ (W2.drewN nq).heap.size := Nat.le_refl _
        clear hn2 hf2 hb0 hb1 e1 e2 e3 hp hcc hr0 hK2 Hrec
        generalize W2.drewN nq = W3 at *
        have hnew := Bel.new W3 (.cells #[.int .i64 0] 3)
        have hac4 := (hnew.cell (p := ⟨w3.heap.size, 0, none⟩) (World.block_lt_of_cell? _ _ hi3.ac)).trans hi3.ac
        have hi4 := hi3.turn (grown_alloc W3 (.cells #[.int .i64 0] 3)) (fun g e => by cases e)
        have hn4 := (hnew.cell (p := ⟨K, 0, none⟩) hK3).trans hn3
        have hf4 := (hnew.frozen (p := ⟨K, 0, none⟩) hK3).trans hf3
        have hm4 : (W3.alloc (.cells #[.int .i64 0] 3)).cell? ⟨W3.heap.size, 0, none⟩ = some (.int .i64 0) := by simp [go_sem]
        have hmf4 : (W3.alloc (.cells #[.int .i64 0] 3)).frozen? ⟨W3.heap.size, 0, none⟩ = false := by simp [go_sem]
        have hko4 := hko3.trans (KeepsOthers.alloc W3 (.cells #[.int .i64 0] 3))
        have hr4 : (W3.alloc (.cells #[.int .i64 0] 3)).heap[l']? = some (.loop r0) := (Below.heap_alloc W3 _ l' (Array.getElem?_eq_some_iff.1 hr3).1).trans hr3
        have hKl4 := hi4.kl
        have hs4a : (W3.alloc (.cells #[.int .i64 0] 3)).heap.size ≤ W3.heap.size + 1 := by simp
        have hs4b : W3.heap.size + 1 ≤ (W3.alloc (.cells #[.int .i64 0] 3)).heap.size := by simp
        have H4 := Lib.hid (And.intro hi4 (And.intro hn4 (And.intro hf4 (And.intro hm4 (And.intro hmf4 (KeepsOthers.refl (W3.alloc (.cells #[.int .i64 0] 3))))))))
        have Hr4 := Lib.hid hr4
        have Hko4 := Lib.hid hko4
        clear hi3 hi4 hn3 hn4 hf3 hf4 hm4 hmf4 hnew hko3 hko4 hr3 hr4
        gi_wp2_with fail
        clear hac4
        obtain ⟨MB, hMB⟩ : ∃ MB, MB = W3.heap.size := ⟨_, rfl⟩
        rw [← hMB] at hs4a hs4b hK3 H4 ⊢
        clear hMB hs3 
        generalize W3.alloc (.cells #[.int .i64 0] 3) = w10 at *
        refine range_in (gf := 58) (lb := #[.pointer (some ⟨bx, 0, none⟩), .pointer (some ⟨bx + 1, 0, none⟩)]) (r₀ := r0) Hr4.out rfl (enters_of Try.func58 (by kernel_rfl) rfl) (encs := encW) (fun _ => rfl) (walk l).1 _ _
          (through_seq 17 (by omega) bx (bx + 1) 51 #[] u l (fun A B => B = A) (enters_of Try.func51 (by kernel_rfl) rfl))
          (fun A B h => by rw [h]; exact KeepsOthers.refl _)
          (fun pre2 W => pre2.length ≤ k + 1 ∧ WkI w K w.heap.size w1.heap.size (w1.heap.size + 1) w3.heap.size bx (.slice (some ⟨g1, 0, none⟩) N c1) (.slice (some ⟨g2, 0, none⟩) N c2) u l W ∧ W.cell? ⟨K, 0, none⟩ = some (.int .i64 k) ∧ W.frozen? ⟨K, 0, none⟩ = false ∧ W.cell? ⟨MB, 0, none⟩ = some (.int .i64 pre2.length) ∧ W.frozen? ⟨MB, 0, none⟩ = false ∧ KeepsOthers w10 W)
          (fun c W => c = .exit 6 ∧ WkI w K w.heap.size w1.heap.size (w1.heap.size + 1) w3.heap.size bx (.slice (some ⟨g1, 0, none⟩) N c1) (.slice (some ⟨g2, 0, none⟩) N c2) u l W ∧ W.cell? ⟨K, 0, none⟩ = some (.int .i64 k) ∧ W.frozen? ⟨K, 0, none⟩ = false ∧ KeepsOthers w10 W)
          (fun d A B h k => ⟨h.1, h.2.1.calm k (by have := h.2.1.kw; omega), k.cell h.2.2.1, (k.frozen h.2.2.1).trans h.2.2.2.1, k.cell h.2.2.2.2.1, (k.frozen h.2.2.2.2.1).trans h.2.2.2.2.2.1, keeps_calm h.2.2.2.2.2.2 k⟩)
          (fun c A B h k => ⟨h.1, h.2.1.calm k (by have := h.2.1.kw; omega), k.cell h.2.2.1, (k.frozen h.2.2.1).trans h.2.2.2.1, keeps_calm h.2.2.2.2 k⟩)
          (fun d A h => h.2.1.iter Hlt.out 17) ⟨Nat.zero_le _, H4.out⟩ ?round4b ?done4b ?stop4b
        case round4b =>
          rintro l'' pre2 ⟨p2, o2, x2⟩ rest2 W hx2 hi hsz2
          obtain ⟨hps2, hi⟩ := hi
          clear H4
          have hpl2 : pre2.length < N := by rw [HN.out, hx2]; simp
          simp only [encW, instrVal]
          gi_wp2
          refine ⟨KeepsOthers.alloc _ _, fun W5 hs5 hc5 => ?_⟩
          have hcal := (Calm.of (Bel.new W (.cells #[.int .u8 o2, .int .u32 x2] 36)) hsz2).trans hc5
          have hi5 := hi.1.calm hcal (by have := hi.1.kw; omega)
          have hn5 := hcal.cell hi.2.1
          have hf5 := (hcal.frozen hi.2.1).trans hi.2.2.1
          have hm5 := hcal.cell hi.2.2.2.1
          have hmf5 := (hcal.frozen hi.2.2.2.1).trans hi.2.2.2.2.1
          have hko5 := keeps_calm hi.2.2.2.2.2 hcal
          have hb0 : W5.cell? ⟨W.heap.size, 0, none⟩ = some (.int .u8 o2) := hc5.cell (by simp [go_sem])
          have hb1 : W5.cell? ⟨W.heap.size, 1, none⟩ = some (.int .u32 x2) := hc5.cell (by simp [go_sem])
          obtain ⟨g1', g2', eg1, eg2, e1, e2, e3⟩ := hi5.at hx2 HN.out.symm
          cases eg1
          cases eg2
          have hp := hi5.pc
          have hcc := hi5.cc
          have q0' : (pre2.length : Int) < (N : Int) := by omega
          have q1' : (0 : Int) ≤ (pre2.length : Int) := by omega
          have q2' : (pre2.length : Int) ≤ 16384 := by omega
          have Hi5 := Lib.hid hi5
          have Hko5 := Lib.hid hko5
          generalize hj : pre2.length = j at *
          have Hj := Lib.hid hj
          clear hi hi5 hcal hc5 hj hx2 hko5
          by_cases hkj : k < j
          · have hd3 : decide (k < j) = true := decide_eq_true hkj
            gi_wp2
            exact ⟨KeepsOthers.refl _, rfl, Hi5.out, hn5, hf5, Hko5.out⟩
          · have hd3 : decide (k < j) = false := decide_eq_false hkj
            gi_wp2_with fail
            refine wpIn_region_quietR_lit (by kernel_rfl) (by kernel_rfl) (by kernel_rfl) ?_
            repeat (gi_big_quiet_step (fail))
            refine wpQuietIn_nil ?_
            intro _ hw'
            obtain ⟨nq2, hw''⟩ := hw'
            subst hw''
            gi_wp2
            have hst := grownBy_trans (grown_drewN W5 nq2 (some MB)) (grown_setCell (W5.drewN nq2) MB 0 (.int .i64 ((j : Int) + 1))) (fun q e => .inl e)
            have hko := (KeepsOthers.drewN W5 nq2).trans (KeepsOthers.setCell (W5.drewN nq2) ⟨MB, 0, none⟩ (.int .i64 ((j : Int) + 1)))
            refine ⟨hko, by rw [List.length_append, Hj.out]; show j + 1 ≤ k + 1; omega, Hi5.out.turn hst (fun q e => by cases e; omega), ?_, ?_, ?_, ?_, Hko5.out.trans hko⟩
            · exact (World.cell?_of_block (Below.heap_setCell _ _ _ _ (by show K ≠ MB; omega))).trans hn5
            · rw [World.frozen?_setCell]; exact hf5
            · rw [List.length_append, Hj.out]; exact World.cell?_setCell_same' _ _ _ (by show (W5.cell? ⟨MB, 0, none⟩).isSome = true; rw [hm5]; rfl)
            · rw [World.frozen?_setCell]; exact hmf5
        case' done4b =>
          rintro W6 W7 W8 hi rfl hc
          obtain ⟨-, hi, hn, hf, -, -, hko⟩ := hi
          rename_i Kx hKx
          refine hKx _ _ ?_
          clear hKx Kx
          have hI4 := And.intro (hi.calm hc (by have := hi.kw; omega)) (And.intro (hc.cell hn) (And.intro ((hc.frozen hn).trans hf) (keeps_calm hko hc)))
          clear hi hn hf hko hc
        case' stop4b =>
          rintro c W8 ⟨rfl, hi, hn, hf, hko⟩
          have hI4 := And.intro hi (And.intro hn (And.intro hf hko))
          clear hi hn hf hko
        all_goals
          clear H4
          obtain ⟨hi4, hn4, hf4, hko⟩ := hI4
          have hi5 := hi4.turn (grown_setCell W8 K 0 (.int .i64 ((k : Int) + 1))) (fun g e => by cases e; exact Nat.le_refl _)
          have hn5 : (W8.setCell ⟨K, 0, none⟩ (.int .i64 ((k : Int) + 1))).cell? ⟨K, 0, none⟩ = some (.int .i64 ((k : Int) + 1)) := World.cell?_setCell_same' _ _ _ (by rw [hn4]; rfl)
          have hf5 : (W8.setCell ⟨K, 0, none⟩ (.int .i64 ((k : Int) + 1))).frozen? ⟨K, 0, none⟩ = false := by rw [World.frozen?_setCell]; exact hf4
          have hko5 := (Hko4.out.trans hko).trans (KeepsOthers.setCell W8 ⟨K, 0, none⟩ (.int .i64 ((k : Int) + 1)))
          have hdd5 := hko5.same _ _ Hdd.out.1 rfl
          have hdd25 := hko5.same _ _ Hdd.out.2 rfl
          have H5 := Lib.hid (And.intro hi5 (And.intro hn5 (And.intro hf5 (And.intro hdd5 hdd25))))
          have HK5 := Lib.hid hko5
          clear hi4 hi5 hn5 hf5 hko hko5 hdd5 hdd25
          by_cases h40 : k < 40
          · have hd4 : decide (40 < (k : Int) + 1) = false := decide_eq_false (by omega)
            gi_wp2
            exact ⟨HK5.out, by rw [List.length_append, Hk.out]; show k + 1 ≤ 40; omega, H5.out.1, by rw [List.length_append, Hk.out]; exact H5.out.2.1, H5.out.2.2.1, H5.out.2.2.2.1, H5.out.2.2.2.2⟩
          · have hd4 : decide (40 < (k : Int) + 1) = true := decide_eq_true (by omega)
            gi_wp2
            exact ⟨HK5.out, rfl, H5.out.1, H5.out.2.2.2.1, H5.out.2.2.2.2⟩
      case' done3b =>
        rintro D3 W2 W3 W4' hi rfl hc hD3 hd3
        obtain ⟨-, hi, -, -, hdd, hdd2⟩ := hi
        rename_i Kx hKx
        refine hKx _ _ ?_
        clear hKx Kx
        have hI4 := And.intro (hi.calm hc (by have := hi.kw; omega)) (And.intro ((hc.block D (by omega)).trans hdd) (And.intro ((hc.block D2 (by omega)).trans hdd2) hd3))
        clear hi hdd hdd2 hc
      case' stop3b =>
        rintro D3 c W4' ⟨rfl, hi, hdd, hdd2⟩ hD3 hd3
        have hI4 := And.intro hi (And.intro hdd (And.intro hdd2 hd3))
        clear hi hdd hdd2
      all_goals
        clear H5
        obtain ⟨hi4, hdd4, hdd24, hd34⟩ := hI4
        have hr4 := hi4.rr
        have hrf4 := hi4.rf
        have hdne : D ≠ D2 ∧ D2 ≠ D3 ∧ D ≠ D3 := by refine ⟨?_, ?_, ?_⟩ <;> omega
        have Hi4 := Lib.hid hi4
        clear hi4
        gi_wp2
        have hset := KeepsOthers.setCell W4' ⟨w.heap.size, 0, none⟩ (.bool true)
        have h30 := hset.same _ _ hd34 rfl
        have h20 := (World.putObj_heap_other (o := .deferred none) (w := W4'.setCell ⟨w.heap.size, 0, none⟩ (.bool true)) (show D2 ≠ D3 from hdne.2.1)).trans (hset.same _ _ hdd24 rfl)
        have h10 := (World.putObj_heap_other (o := .deferred none) (w := (W4'.setCell ⟨w.heap.size, 0, none⟩ (.bool true)).putObj D3 (.deferred none)) (show D ≠ D2 from hdne.1)).trans ((World.putObj_heap_other (o := .deferred none) (w := W4'.setCell ⟨w.heap.size, 0, none⟩ (.bool true)) (show D ≠ D3 from hdne.2.2)).trans (hset.same _ _ hdd4 rfl))
        clear hset
        refine ⟨by simp, .inl ⟨_, _, rfl, run_takeDeferred (h30), ?_⟩⟩
        refine ⟨by simp, .inl ⟨_, _, rfl, run_takeDeferred (h20), ?_⟩⟩
        refine ⟨by simp, .inl ⟨_, _, rfl, run_takeDeferred (h10), ?_⟩⟩
        have hbs := Hi4.out.below.setCell (p := ⟨w.heap.size, 0, none⟩) (Nat.le_refl _) (.bool true)
        have hc0 : (W4'.setCell ⟨w.heap.size, 0, none⟩ (.bool true)).cell? ⟨w.heap.size, 0, none⟩ = some (.bool true) := World.cell?_setCell_same' _ _ _ (by rw [Hi4.out.rr]; rfl)
        have hwk := Hi4.out.kw
        have hlt0 := Hi4.out.lt.1
        have hwD : w.heap.size < D ∧ w.heap.size < D2 ∧ w.heap.size < D3 := by refine ⟨?_, ?_, ?_⟩ <;> omega
        have k3 := Calm.putObj (B := w.heap.size) _ (.deferred none) h30 rfl (by omega)
        have k2 := Calm.putObj (B := w.heap.size) _ (.deferred none) h20 rfl (by omega)
        have k1 := Calm.putObj (B := w.heap.size) _ (.deferred none) h10 rfl (by omega)
        have hcv := k1.cell (k2.cell (k3.cell hc0))
        have hbf := Calm.below (Calm.below (Calm.below hbs k3) k2) k1
        refine ⟨.bool true, ?_, rfl, hbf⟩
        clear k1 k2 k3 hbf hbs hc0 hr4 hrf4 h10 h20 h30
        simp [results, Try.results9, go_sem, hcv]
theorem isaWalk_full (x : Value) (l : List Nat) (lv : Int) (w : World) (hx : Bytes w x l) (hl : l.length ≤ 140737488351232) (_hw : (Lit.int .i64 lv).wf = true) :
    Calls Try.prog 9 #[x, .int .i64 lv] w fun e w' => e = .returned (.bool true) ∧ Below w.heap.size w w' := isaWalk_walk x l lv w hx hl
end Go.Proofs.Ytdigcbkjlppenaa
