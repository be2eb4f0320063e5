import Derived.Test.YtdffaepbkecoeaaGreatE1
import Derived.Test.YtdffaepbkecoeaaGreatE7
import Derived.Test.YtdffaepbkecoeaaGreatE3
import Derived.Test.YtdffaepbkecoeaaGreatE5
set_option maxRecDepth 100000
set_option maxHeartbeats 4000000
namespace Go.Proofs.YtdffaepbkecoeaaGreat
open Go.RowKit
set_option linter.unusedVariables false
set_option linter.unusedSimpArgs false
section
variable {w0 w:World} {b:Nat} {K:MacK} {s:St} {vo:Value} {R:MacR} {M:MemK} {vt:Value} {lg:List (Nat×Bool)} {gr:List (Nat×Int)} {mb:Nat} {m:Img} {reps:List Rep}
theorem held4 (W:World) {p q:Nat} {a b c d:Value} {row:Array Value} (h:(W.cell? ⟨p,0,none⟩=some a∧W.cell? ⟨p,1,none⟩=some b)∧(W.cell? ⟨p,2,none⟩=some c∧W.cell? ⟨p,3,none⟩=some d)) (hn:p≠q):((W.setRow q row).cell? ⟨p,0,none⟩=some a∧(W.setRow q row).cell? ⟨p,1,none⟩=some b)∧((W.setRow q row).cell? ⟨p,2,none⟩=some c∧(W.setRow q row).cell? ⟨p,3,none⟩=some d):=by
 have e:∀ j,(W.setRow q row).cell? ⟨p,j,none⟩=W.cell? ⟨p,j,none⟩:=fun j=>by unfold World.cell?;rw [setRow_other _ _ _ _ hn]
 rw [e,e,e,e];exact h
theorem build64z (w:World):(Instr.build 44 #[]).run Tryz.prog w=.ok (.agg #[.int .u8 0,.int .u32 0,.int .u32 0,.int .u8 0,.int .i64 0,.int .i64 0,.slice none 0 0,.int .u32 0,.int .u32 0,.slice none 0 0,.int .u32 0]) w:=by kernel_rfl
def GoBad (err:Int) (w:World) (e:Ending) (w':World):Prop :=
 e=.returned (.tuple #[.agg #[.int .u8 0,.int .u32 0,.int .u32 0,.int .u8 0,.int .i64 0,.int .i64 0,.slice none 0 0,.int .u32 0,.int .u32 0,.slice none 0 0,.int .u32 0],.int .i64 err])∧Below w.heap.size w w'
theorem go_reply (H:Rdy w0 w b K s vo R M vt lg gr mb m) {fuel:Int} {pa:Option Addr} {pn pc:Nat} (hf:0≤fuel) (hf2:fuel≤65536) (hr:RepsAt w (.slice pa pn pc) reps) (hrf:repsFit reps=false) :
 Calls Tryz.prog 9 #[.pointer (some ⟨b,0,none⟩),.int .i64 fuel,.slice pa pn pc] w (GoBad 5 w):=by
 have hmx:Tryz.prog.follows .mixedOrders=true:=by kernel_rfl
 have hmf:∀ (fn:Fn) (first cap:Array Value) (w:World),(Instr.makeFunc fn first cap).run Tryz.prog w=.ok (.func fn first cap) w:=fun _ _ _ _=>rfl
 have hz:=zero64
 have hbc:=build64z
 obtain ⟨W1,hW1⟩:∃ W1,W1=((w.alloc (.cells #[.pointer (some ⟨b,0,none⟩)] 35)).alloc (.cells #[.slice pa pn pc] 32)).alloc (.cells #[.int .u8 0,.int .u32 0,.int .u32 0,.int .u8 0,.int .i64 0,.int .i64 0,.slice none 0 0,.int .u32 0,.int .u32 0,.slice none 0 0,.int .u32 0] 44):=⟨_,rfl⟩
 have hb1:Below w.heap.size w W1:=by rw [hW1];exact Bel.tr (Bel.tr (Bel.new _ _) (Bel.new _ _)) (Bel.new _ _)
 have h3:W1.heap[w.heap.size]?=some (.cells #[.pointer (some ⟨b,0,none⟩)] 35 (0,0)):=by rw [hW1];exact ((Bel.new ((w.alloc _).alloc _) _).block w.heap.size (by simp only [World.size_alloc];omega)).trans (((Bel.new (w.alloc _) _).block w.heap.size (by simp only [World.size_alloc];omega)).trans (heap_alloc_new w _))
 have hP:W1.heap[w.heap.size+1]?=some (.cells #[.slice pa pn pc] 32 (0,0)):=by
  rw [hW1]
  have:=(Bel.new ((w.alloc (.cells #[.pointer (some ⟨b,0,none⟩)] 35)).alloc (.cells #[.slice pa pn pc] 32)) (.cells #[.int .u8 0,.int .u32 0,.int .u32 0,.int .u8 0,.int .i64 0,.int .i64 0,.slice none 0 0,.int .u32 0,.int .u32 0,.slice none 0 0,.int .u32 0] 44)).block (w.heap.size+1) (by simp only [World.size_alloc];omega)
  refine this.trans ?_
  have h2:=heap_alloc_new (w.alloc (.cells #[.pointer (some ⟨b,0,none⟩)] 35)) (.cells #[.slice pa pn pc] 32)
  rw [World.size_alloc] at h2
  exact h2
 have hR:W1.heap[w.heap.size+1+1]?=some (.cells #[.int .u8 0,.int .u32 0,.int .u32 0,.int .u8 0,.int .i64 0,.int .i64 0,.slice none 0 0,.int .u32 0,.int .u32 0,.slice none 0 0,.int .u32 0] 44 (0,0)):=by
  rw [hW1]
  have h2:=heap_alloc_new ((w.alloc (.cells #[.pointer (some ⟨b,0,none⟩)] 35)).alloc (.cells #[.slice pa pn pc] 32)) (.cells #[.int .u8 0,.int .u32 0,.int .u32 0,.int .u8 0,.int .i64 0,.int .i64 0,.slice none 0 0,.int .u32 0,.int .u32 0,.slice none 0 0,.int .u32 0] 44)
  rw [World.size_alloc,World.size_alloc] at h2
  exact h2
 have HMade:=Lib.hid (fun W (hW:Below w.heap.size w W)=>mmade_any (H.x.below hW).m.o.m H.st.md)
 have k3:=cell_of_row W1 w.heap.size 0 _ _ _ h3
 have kP:=cell_of_row W1 (w.heap.size+1) 0 _ _ _ hP
 have k66:=(H.x.below hb1).m.o.m.cells.c66
 simp only [macV] at k66
 have HB1:=Lib.hid hb1
 have HR:=Lib.hid hR
 have HC:=Lib.hid (containsrep_any (hr.below hb1))
 rw [hrf] at HC
 clear hb1 H h3 hP k66 hR hr hrf
 go_enter_defers Tryz.func9,Tryz.ntmps9
 have hf0:¬ fuel<0:=by omega
 have hf1:¬ 65536<fuel:=by omega
 go_wp2_with fail
 rw [← hW1]
 clear hW1
 refine (HMade.out W1 HB1.out).mono ?_
 rintro e w1 ⟨rfl,rfl⟩
 go_wp2_with fail
 refine HC.out.mono ?_
 rintro e w2 ⟨rfl,hb2⟩
 have HR2:=Lib.hid ((hb2.block _ (Array.getElem?_eq_some_iff.1 HR.out).1).trans HR.out)
 have HB2:=Lib.hid (Bel.tr HB1.out hb2)
 clear hb2
 go_wp2_with ((with_reducible refine wpList_store_row (o:=⟨none,.store 44 (.tmp 6) (.tmp 26),_,_,_,none⟩) rfl 44 _ _ rfl (w.heap.size+1+1) #[.int .u8 0,.int .u32 0,.int .u32 0,.int .u8 0,.int .i64 0,.int .i64 0,.slice none 0 0,.int .u32 0,.int .u32 0,.slice none 0 0,.int .u32 0] ?_ ?_ 44 _ HR2.out ?_ ?_ ?_ ?_);rfl;rfl;exact info64;rfl;(simp [Value.oneCell']))
 refine ⟨_,results_cell_tmp Tryz.results9 _ _ (w.heap.size+1+1) 44 _ (0,0) _ rfl (setRow_heap _ _ _ _ _ _ HR2.out) Tryz.underlying44 rfl (size64 _ _ _ _ _ _ _ _ _ _ _) _ rfl,?_⟩
 exact ⟨rfl,below_setRow HB2.out _ (by omega) _⟩
theorem go_any (H:Rdy w0 w b K s vo R M vt lg gr mb m) {fu:Nat} {pa:Option Addr} {pn pc:Nat} (hf2:fu≤65536) (hr:RepsS w (allF b vo R M vt) (.slice pa pn pc) reps) (hrf:repsFit reps=true) :
 Calls Tryz.prog 9 #[.pointer (some ⟨b,0,none⟩),.int .i64 fu,.slice pa pn pc] w (GoOut w0 b K s vo R M vt lg gr mb m fu reps w):=by
 have hmx:Tryz.prog.follows .mixedOrders=true:=by kernel_rfl
 have hmf:∀ (fn:Fn) (first cap:Array Value) (w:World),(Instr.makeFunc fn first cap).run Tryz.prog w=.ok (.func fn first cap) w:=fun _ _ _ _=>rfl
 have hz:=zero64
 have hbc:=build64z
 obtain ⟨W1,hW1⟩:∃ W1,W1=((w.alloc (.cells #[.pointer (some ⟨b,0,none⟩)] 35)).alloc (.cells #[.slice pa pn pc] 32)).alloc (.cells #[.int .u8 0,.int .u32 0,.int .u32 0,.int .u8 0,.int .i64 0,.int .i64 0,.slice none 0 0,.int .u32 0,.int .u32 0,.slice none 0 0,.int .u32 0] 44):=⟨_,rfl⟩
 have hb1:Below w.heap.size w W1:=by rw [hW1];exact Bel.tr (Bel.tr (Bel.new _ _) (Bel.new _ _)) (Bel.new _ _)
 have h3:W1.heap[w.heap.size]?=some (.cells #[.pointer (some ⟨b,0,none⟩)] 35 (0,0)):=by rw [hW1];exact ((Bel.new ((w.alloc _).alloc _) _).block w.heap.size (by simp only [World.size_alloc];omega)).trans (((Bel.new (w.alloc _) _).block w.heap.size (by simp only [World.size_alloc];omega)).trans (heap_alloc_new w _))
 have hP:W1.heap[w.heap.size+1]?=some (.cells #[.slice pa pn pc] 32 (0,0)):=by
  rw [hW1]
  have:=(Bel.new ((w.alloc (.cells #[.pointer (some ⟨b,0,none⟩)] 35)).alloc (.cells #[.slice pa pn pc] 32)) (.cells #[.int .u8 0,.int .u32 0,.int .u32 0,.int .u8 0,.int .i64 0,.int .i64 0,.slice none 0 0,.int .u32 0,.int .u32 0,.slice none 0 0,.int .u32 0] 44)).block (w.heap.size+1) (by simp only [World.size_alloc];omega)
  refine this.trans ?_
  have h2:=heap_alloc_new (w.alloc (.cells #[.pointer (some ⟨b,0,none⟩)] 35)) (.cells #[.slice pa pn pc] 32)
  rw [World.size_alloc] at h2
  exact h2
 have hR:W1.heap[w.heap.size+1+1]?=some (.cells #[.int .u8 0,.int .u32 0,.int .u32 0,.int .u8 0,.int .i64 0,.int .i64 0,.slice none 0 0,.int .u32 0,.int .u32 0,.slice none 0 0,.int .u32 0] 44 (0,0)):=by
  rw [hW1]
  have h2:=heap_alloc_new ((w.alloc (.cells #[.pointer (some ⟨b,0,none⟩)] 35)).alloc (.cells #[.slice pa pn pc] 32)) (.cells #[.int .u8 0,.int .u32 0,.int .u32 0,.int .u8 0,.int .i64 0,.int .i64 0,.slice none 0 0,.int .u32 0,.int .u32 0,.slice none 0 0,.int .u32 0] 44)
  rw [World.size_alloc,World.size_alloc] at h2
  exact h2
 have HMade:=Lib.hid (fun W (hW:Below w.heap.size w W)=>mmade_any (H.x.below hW).m.o.m H.st.md)
 have k3:=cell_of_row W1 w.heap.size 0 _ _ _ h3
 have kP:=cell_of_row W1 (w.heap.size+1) 0 _ _ _ hP
 have k66:=(H.x.below hb1).m.o.m.cells.c66
 simp only [macV] at k66
 have HB1:=Lib.hid hb1
 have HRb:=Lib.hid hR
 have HC:=Lib.hid (containsrep_any (hr.at_.below hb1))
 have HRF:=Lib.hid hrf
 rw [hrf] at HC
 have HH:=Lib.hid H
 have HRS:=Lib.hid (hr.fr (Fr.of hb1 _))
 have HPN:Hid (pn=reps.length∧pn≤maxLen):=Lib.hid (by obtain ⟨a,cap,e,h1,h2,-⟩:=hr;cases e;exact ⟨rfl,by omega⟩)
 have H3b:=Lib.hid h3
 have HPb:=Lib.hid hP
 clear hb1 H h3 hP k66 hR hr hrf
 go_enter_defers Tryz.func9,Tryz.ntmps9
 have hf0:¬ (fu:Int)<0:=by omega
 have hf1:¬ 65536<(fu:Int):=by omega
 go_wp2_with fail
 rw [← hW1]
 clear hW1
 refine (HMade.out W1 HB1.out).mono ?_
 rintro e w1 ⟨rfl,rfl⟩
 go_wp2_with fail
 refine HC.out.mono ?_
 rintro e w2 ⟨rfl,hb2⟩
 have hB2:=Bel.tr HB1.out hb2
 have hx2:=HH.out.x.below hB2
 have k66:=hx2.m.o.m.cells.c66
 simp only [macV] at k66
 have hR2:=(hb2.block _ (Array.getElem?_eq_some_iff.1 HRb.out).1).trans HRb.out
 have h32:=(hb2.block _ (Array.getElem?_eq_some_iff.1 H3b.out).1).trans H3b.out
 have hP2:=(hb2.block _ (Array.getElem?_eq_some_iff.1 HPb.out).1).trans HPb.out
 have k3:=cell_of_row w2 w.heap.size 0 _ _ _ h32
 have kP:=cell_of_row w2 (w.heap.size+1) 0 _ _ _ hP2
 have hS2:=HRS.out.fr (Fr.of hb2 _)
 have HRs:=Lib.hid (fun W (hW:Below w2.heap.size w2 W)=>mrest_any (hx2.below hW).m.o.m)
 have HR2:=Lib.hid hR2
 have H32:=Lib.hid h32
 have HP2:=Lib.hid hP2
 have HX2:=Lib.hid hx2
 have HS2:=Lib.hid hS2
 have HB2:=Lib.hid hB2
 clear hb2 hB2 hx2 hR2 h32 hP2 hS2 HMade HB1 HRb HC HRS H3b HPb
 by_cases hl:s.life=1
 ·rw [hl] at k66
  go_wp2_with fail
  obtain ⟨q3,hq3⟩:∃ q,q=w.heap.size:=⟨_,rfl⟩
  obtain ⟨qP,hqP⟩:∃ q,q=w.heap.size+1:=⟨_,rfl⟩
  obtain ⟨qR,hqR⟩:∃ q,q=w.heap.size+1+1:=⟨_,rfl⟩
  rw [← hqR] at HR2 ⊢
  rw [← hqP] at HP2 kP ⊢
  rw [← hq3] at H32 k3 ⊢
  have HQ:=Lib.hid (And.intro hq3 (And.intro hqP hqR))
  clear hq3 hqP hqR
  have hH0:(w2.drew.cell? ⟨q3,0,none⟩=some (.pointer (some ⟨b,0,none⟩))∧w2.drew.cell? ⟨qP,0,none⟩=some (.slice pa pn pc)):=⟨k3,kP⟩
  refine wp_region_noPanic ?_
  refine wp_region_held_drew (S:=fun W=>(W.cell? ⟨q3,0,none⟩=some (.pointer (some ⟨b,0,none⟩))∧W.cell? ⟨qP,0,none⟩=some (.slice pa pn pc))) hmx hH0 (fun hHeld=>?_)
  refine tk 0 hHeld ?_
  refine tk 1 hHeld ?_
  refine tk 2 hHeld ?_
  refine tk 3 hHeld ?_
  refine tk 4 hHeld ?_
  refine rd 5 ⟨none,.store 32 (.tmp 38) (.tmp 36),_,_,_,none⟩ fun K hK=>?_
  rw [if_pos (by rfl)]
  have x0:=HX2.out.below (Below.refl _ _).drew
  refine outs_wp (R:=fun v W'=>v=undef∧W'=w2.drew.setCell ⟨b,74,none⟩ (.slice pa pn pc)) (outs_store_at 32 (.tmp 38) (.tmp 36) rfl b 74 _ rfl rfl _ x0.m.o.m.c74 (x0.m.o.m.cells.fz 74) tinfo53 rfl ⟨rfl,rfl⟩) ?_
  rintro _ _ ⟨rfl,rfl⟩
  have x1:=x0.setReplies (.slice pa pn pc)
  have f1:Fr w2.drew (w2.drew.setCell ⟨b,74,none⟩ (.slice pa pn pc)) (allF b vo R M vt) (allF b vo { R with replies:=.slice pa pn pc } M vt):=Fr.setCell w2.drew (F:=allF b vo R M vt) (a:=⟨b,74,none⟩) (.inl (.inl (.inl rfl))) _
  obtain ⟨X1,hX1⟩:∃ X,X=w2.drew.setCell ⟨b,74,none⟩ (.slice pa pn pc):=⟨_,rfl⟩
  rw [← hX1] at x1 f1 ⊢
  clear hX1
  obtain ⟨i1,i2,i3⟩:=HQ.out
  have hfl:=HH.out.x.flt
  have n3:¬ allF b vo R M vt q3:=fun e=>by have:=hfl q3 e;omega
  have nP:¬ allF b vo R M vt qP:=fun e=>by have:=hfl qP e;omega
  have nR:¬ allF b vo R M vt qR:=fun e=>by have:=hfl qR e;omega
  have g3:=f1.row (H32.out:w2.drew.heap[q3]?=_) n3
  have gP:=f1.row (HP2.out:w2.drew.heap[qP]?=_) nP
  have gR:=f1.row (HR2.out:w2.drew.heap[qR]?=_) nR
  have hH1:(X1.cell? ⟨q3,0,none⟩=some (.pointer (some ⟨b,0,none⟩))∧X1.cell? ⟨qP,0,none⟩=some (.slice pa pn pc)):=⟨cell_of_row X1 q3 0 _ _ _ g3,cell_of_row X1 qP 0 _ _ _ gP⟩
  clear i1 i2 i3
  refine hK.out _ _ hH1 (fun _=>?_)
  clear hK K
  try simp only [Act.put,aT,aZ,aS]
  refine tk 6 hH1 ?_
  refine tk 7 hH1 ?_
  refine rd 8 ⟨none,.store 40 (.tmp 40) (.const (.slice none 0 0)),_,_,_,none⟩ fun K hK=>?_
  rw [if_pos (by rfl)]
  refine outs_wp (R:=fun v W'=>v=undef∧W'=X1.setCell ⟨b,75,none⟩ (.slice none 0 0)) (outs_store_at 40 (.tmp 40) (.const (.slice none 0 0)) rfl b 75 _ rfl rfl _ x1.m.o.m.c75 (x1.m.o.m.cells.fz 75) tinfo60 rfl ⟨rfl,rfl⟩) ?_
  rintro _ _ ⟨rfl,rfl⟩
  have x2:=setNoEvents x1 HH.out.en
  have f2:Fr X1 (X1.setCell ⟨b,75,none⟩ (.slice none 0 0)) (allF b vo { R with replies:=.slice pa pn pc } M vt) (allF b vo { R with replies:=.slice pa pn pc } M vt):=Fr.setCell X1 (F:=allF b vo R M vt) (a:=⟨b,75,none⟩) (.inl (.inl (.inl rfl))) _
  obtain ⟨X2,hX2⟩:∃ X,X=X1.setCell ⟨b,75,none⟩ (.slice none 0 0):=⟨_,rfl⟩
  rw [← hX2] at x2 f2 ⊢
  clear hX2
  have g32:=f2.row g3 n3
  have gP2:=f2.row gP nP
  have gR2:=f2.row gR nR
  have hH2:(X2.cell? ⟨q3,0,none⟩=some (.pointer (some ⟨b,0,none⟩))∧X2.cell? ⟨qP,0,none⟩=some (.slice pa pn pc)):=⟨cell_of_row X2 q3 0 _ _ _ g32,cell_of_row X2 qP 0 _ _ _ gP2⟩
  refine hK.out _ _ hH2 (fun _=>?_)
  clear hK K
  try simp only [Act.put,aT,aZ,aS]
  refine wpAnyH_done (by kernel_rfl) ?_ _
  refine NoPanic.normal ?_
  have fX:=Lib.hid ((((Fr.of HB2.out _).drew).trans f1).trans f2)
  have xX:=Lib.hid x2
  have G3:=Lib.hid g32
  have GP:=Lib.hid gP2
  have GR:=Lib.hid gR2
  have N3:=Lib.hid (And.intro n3 (And.intro nP nR))
  have HS3:=Lib.hid ((HS2.out.fr (((Fr.refl w2 (allF b vo R M vt)).drew.trans f1).trans f2)))
  clear hHeld hH0 hH1 hH2 x0 x1 x2 f1 f2 g3 gP gR g32 gP2 gR2 n3 nP nR hfl k3 kP k66 HR2 H32 HP2 HX2 HS2 HRs
  go_wp2_with fail
  obtain ⟨W,hW⟩:∃ W,W=((X2.alloc (.cells #[.int .u8 3] 38)).alloc (.cells #[.int .i64 0] 3)).alloc (.cells #[.int .u32 0,.int .u32 0,.slice none 0 0,.int .u32 0] 42):=⟨_,rfl⟩
  obtain ⟨hE,hU,hA,hbW⟩:=alloc3_rows X2 (.cells #[.int .u8 3] 38) (.cells #[.int .i64 0] 3) (.cells #[.int .u32 0,.int .u32 0,.slice none 0 0,.int .u32 0] 42)
  rw [← hW] at hE hU hA hbW ⊢
  clear hW
  obtain ⟨qE,hqE⟩:∃ q,q=X2.heap.size:=⟨_,rfl⟩
  obtain ⟨qU,hqU⟩:∃ q,q=X2.heap.size+1:=⟨_,rfl⟩
  obtain ⟨qA,hqA⟩:∃ q,q=X2.heap.size+1+1:=⟨_,rfl⟩
  rw [← hqA,← hqU,← hqE]
  rw [← hqA] at hA
  rw [← hqU] at hU
  rw [← hqE] at hE
  have g3:=(hbW.block _ (Array.getElem?_eq_some_iff.1 G3.out).1).trans G3.out
  have gP:=(hbW.block _ (Array.getElem?_eq_some_iff.1 GP.out).1).trans GP.out
  have gR:=(hbW.block _ (Array.getElem?_eq_some_iff.1 GR.out).1).trans GR.out
  have l3:=(Array.getElem?_eq_some_iff.1 G3.out).1
  have lP:=(Array.getElem?_eq_some_iff.1 GP.out).1
  have lR:=(Array.getElem?_eq_some_iff.1 GR.out).1
  have hfl:=xX.out.flt
  obtain ⟨F0,hF0⟩:∃ F0:Nat→Prop,F0=allF b vo { R with replies:=.slice pa pn pc } M vt:=⟨_,rfl⟩
  have hn0:¬ F0 qE∧¬ F0 qU∧¬ F0 qA:=by
   rw [hF0]
   exact ⟨fun e=>by have:=hfl qE e;omega,fun e=>by have:=hfl qU e;omega,fun e=>by have:=hfl qA e;omega⟩
  have hn3:¬ F0 q3∧¬ F0 qP∧¬ F0 qR:=by rw [hF0];exact N3.out
  obtain ⟨i1,i2,i3⟩:=HQ.out
  have HN:=Lib.hid (And.intro hn0 hn3)
  have HD:Hid ((qE≠qR∧q3≠qR∧qA≠qR∧qU≠qR∧qP≠qR)∧(qE≠qU∧q3≠qU∧qA≠qU∧qP≠qU∧qE≠qA∧qP≠qE∧qP≠qA∧q3≠qE∧q3≠qA)∧w.heap.size≤qR∧w.heap.size≤qU):=Lib.hid (by have:=fX.out.size;omega)
  have HD2:Hid (w.heap.size≤qE∧w.heap.size≤qA):=Lib.hid (by have:=fX.out.size;omega)
  have HRow:=Lib.hid (And.intro hE (And.intro hA (And.intro g3 (And.intro gP gR))))
  have HFX:=Lib.hid (fX.out.trans (Fr.of hbW _))
  rw [← hF0] at HFX
  obtain ⟨gg,hgg⟩:∃ gg,gg=goM (moOf m) gr fu reps s:=⟨_,rfl⟩
  have HGG:=Lib.hid hgg
  have I0:GoI w0 W b K M gr mb m F0 R.on lg fu reps.length gg qU W 0 s vo { R with replies:=.slice pa pn pc } vt [] reps [] lg:=⟨Nat.zero_le _,xX.out.below hbW,by rw [touL_nil _ HH.out.x.ll],HH.out.home.fr (fX.out.trans (Fr.of hbW _)),HH.out.wf,HH.out.fit,HS3.out.fr (Fr.of hbW _),Nat.le_refl _,rfl,Nat.le_refl _,HRF.out,by rw [hgg];exact (after_nil _).symm,by rw [← hF0];exact Fr.refl _ _,hU,by rw [← hF0];exact hn0.2.1⟩
  have HI0:=Lib.hid I0
  clear hE hU hA hbW hqE hqU hqA g3 gP gR l3 lP lR hfl hF0 hn0 hn3 i1 i2 i3 hgg I0
  try simp only [show decide ((fu:Int)<0)=false from decide_eq_false (by omega),show decide (65536<(fu:Int))=false from decide_eq_false (by omega),Bool.or_self]
  go_loopw [] (fun wr=>∃ k s' vo' R' vt' evs' reps' t lg',GoI w0 W b K M gr mb m F0 R.on lg fu reps.length gg qU wr k s' vo' R' vt' evs' reps' t lg') (fun wr=>fu - (intOf ((wr.cell? ⟨qU,0,none⟩).getD undef)).toNat)
  case atStart=>exact ⟨0,s,vo,_,vt,[],reps,[],lg,HI0.out⟩
  case round =>
   obtain ⟨k,s',vo',R',vt',evs',reps',t,lg',I⟩:=hrel
   clear HI0
   have HI:=Lib.hid I
   have r3:=I.fr.row HRow.out.2.2.1 (fun e=>e.elim HN.out.2.1 HD.out.2.1.2.1)
   have k3:=cell_of_row wr q3 0 _ _ _ r3
   have k66:=I.x.m.o.m.cells.c66
   simp only [macV] at k66
   have hE:=I.fr.row HRow.out.1 (fun e=>e.elim HN.out.1.1 HD.out.2.1.1)
   have hA:=I.fr.row HRow.out.2.1 (fun e=>e.elim HN.out.1.2.2 HD.out.2.1.2.2.1)
   have hP:=I.fr.row HRow.out.2.2.2.1 (fun e=>e.elim HN.out.2.2.1 HD.out.2.1.2.2.2.1)
   have hR:=I.fr.row HRow.out.2.2.2.2 (fun e=>e.elim HN.out.2.2.2 (fun e=>HD.out.1.2.2.2.1 e.symm))
   have hU:=I.hU
   have nR:¬ allF b vo' R' M vt' qR:=fun e=>I.fr.notF (Array.getElem?_eq_some_iff.1 HRow.out.2.2.2.2).1 (fun e=>e.elim HN.out.2.2.2 (fun e=>HD.out.1.2.2.2.1 e.symm)) (.inl e)
   have nE:¬ allF b vo' R' M vt' qE:=fun e=>I.fr.notF (Array.getElem?_eq_some_iff.1 HRow.out.1).1 (fun e=>e.elim HN.out.1.1 HD.out.2.1.1) (.inl e)
   have nA:¬ allF b vo' R' M vt' qA:=fun e=>I.fr.notF (Array.getElem?_eq_some_iff.1 HRow.out.2.1).1 (fun e=>e.elim HN.out.1.2.2 HD.out.2.1.2.2.1) (.inl e)
   have n3:¬ allF b vo' R' M vt' q3:=fun e=>I.fr.notF (Array.getElem?_eq_some_iff.1 HRow.out.2.2.1).1 (fun e=>e.elim HN.out.2.1 HD.out.2.1.2.1) (.inl e)
   have nP:¬ allF b vo' R' M vt' qP:=fun e=>I.fr.notF (Array.getElem?_eq_some_iff.1 HRow.out.2.2.2.1).1 (fun e=>e.elim HN.out.2.2.1 HD.out.2.1.2.2.2.1) (.inl e)
   have fwr:Fr w wr (allF b vo R M vt) (allF b vo' R' M vt'):=((HFX.out.add (q:=qU)).trans I.fr).drop HD.out.2.2.2
   have HRows:=Lib.hid (And.intro hE (And.intro hA (And.intro r3 (And.intro hP (And.intro hR hU)))))
   have HNs:=Lib.hid (And.intro nE (And.intro nA (And.intro n3 (And.intro nP nR))))
   have HFw:=Lib.hid fwr
   clear r3 hE hA hP hR hU nR nE nA n3 nP fwr
   by_cases hl:s'.life=1
   ·rw [hl] at k66
    have H':AH w0 wr b K s' vo' R' M vt' R'.on [] evs' lg' gr mb m reps':=⟨HH.out.st,I.x,I.home,I.wf,hl,I.fit,I.rep⟩
    have HWt:=Lib.hid (waits_any H')
    have HAH:=Lib.hid H'
    clear I H'
    cases hw:waitsM (moOf m) gr reps' s' with
    | none =>
     rw [hw] at HWt
     go_wp2_with fail
     refine HWt.out.mono ?_
     rintro e w9 ⟨vt9,x9,f9,y0,y1,y2,aa,na,ca,rfl⟩
     have rows9:∀ {q:Nat} {o:Obj},wr.heap[q]?=some o→¬ allF b vo' R' M vt' q→∀ X,Below w9.heap.size w9 X→X.heap[q]?=some o:=fun h hn X hX=>(hX.block _ (Array.getElem?_eq_some_iff.1 (f9.row h hn)).1).trans (f9.row h hn)
     have HR9:=Lib.hid (fun X hX=>rows9 HRows.out.1 HNs.out.1 X hX)
     have u9:=f9.row HRows.out.2.2.2.2.2 HI.out.nU
     have lU:=(Array.getElem?_eq_some_iff.1 u9).1
     have cU:=cell_of_row w9 qU 0 _ _ _ u9
     have l3:=(Array.getElem?_eq_some_iff.1 (f9.row HRows.out.2.2.1 HNs.out.2.2.1)).1
     have c3:=cell_of_row w9 q3 0 _ _ _ (f9.row HRows.out.2.2.1 HNs.out.2.2.1)
     have hkk:=HI.out.hk
     have H9:=Lib.hid (fun X (hX:Below w9.heap.size w9 X)=>(⟨HH.out.st,x9.below hX,(HI.out.home.fr f9).fr (Fr.of hX _),HI.out.wf,hl,HI.out.fit,(HI.out.rep.fr f9).fr (Fr.of hX _)⟩:AH w0 X b K s' vo' R' M vt9 R'.on [] evs' lg' gr mb m reps'))
     have HX9:=Lib.hid x9
     have HF9:=Lib.hid f9
     have HR9s:=Lib.hid (And.intro (fun X hX=>rows9 HRows.out.2.1 HNs.out.2.1 X hX) (And.intro (fun X hX=>rows9 HRows.out.2.2.1 HNs.out.2.2.1 X hX) (And.intro (fun X hX=>rows9 HRows.out.2.2.2.1 HNs.out.2.2.2.1 X hX) (And.intro (fun X hX=>rows9 HRows.out.2.2.2.2.1 HNs.out.2.2.2.2 X hX) (fun X hX=>rows9 HRows.out.2.2.2.2.2 HI.out.nU X hX)))))
     clear rows9 x9 f9 u9 k3 k66
     by_cases hkf:k=fu
     ·subst hkf
      go_wp2_with fail
      refine go_door HH.out rfl rfl (HX9.out.below (Bel.new _ _)) ((HI.out.home.fr HF9.out).fr (Fr.of (Bel.new _ _) _)) HI.out.wf HI.out.fit ((HI.out.rep.fr HF9.out).fr (Fr.of (Bel.new _ _) _)) HI.out.on ((HFw.out.trans HF9.out).trans (Fr.of (Bel.new _ _) _)) (HR9.out _ (Bel.new _ _)) (HR9s.out.2.1 _ (Bel.new _ _)) (ask:=askZ) (va:=.slice none 0 0) (HR9s.out.1 _ (Bel.new _ _)) (World.ownsRow_nil _ _ _ _) (fun g e=>by cases e) (HR9s.out.2.2.2.1 _ (Bel.new _ _)) rfl (HR9s.out.2.2.2.2 _ (Bel.new _ _)) (HR9s.out.2.2.1 _ (Bel.new _ _)) HPN.out.1 HPN.out.2 HI.out.rl HD.out.1.1 HD.out.1.2.1 HD.out.1.2.2.1 HD.out.1.2.2.2.1 HD.out.1.2.2.2.2 (HF9.out.notF (Array.getElem?_eq_some_iff.1 HRows.out.2.2.2.2.1).1 HNs.out.2.2.2.2) HD.out.2.2.1 HGG.out ?_
      rw [HI.out.goes,HI.out.lgq,Nat.sub_self]
      obtain ⟨e1,e2,e3⟩:=res_zero (n:=reps.length) (gr:=gr) (k:=k) (reps':=reps') (t:=t) (e:=evs'.map (·.1)) (mo:=moOf m) hl hw
      exact ⟨e1,e2,by rw [e3]⟩
     ·have hkf2:¬ (k:Int)=(fu:Int):=by omega
      have wk:IntKind.i64.wrap ((k:Int)+1)=(k:Int)+1:=IntWalk.i64_in _ (by omega)
      have HTk:=Lib.hid (fun X hX=>mtake_any (H9.out X hX) HI.out.rf (by have:=HI.out.evl;omega) hw)
      go_wp2_with fail
      obtain ⟨X,hX⟩:∃ X,X=w9.alloc (.cells #[.int .u32 y0,.int .u32 y1,.slice aa na ca,.int .u32 y2] 42):=⟨_,rfl⟩
      have hbX:Below w9.heap.size w9 X:=by rw [hX];exact Bel.new _ _
      rw [← hX]
      clear hX
      refine (HTk.out X hbX).mono ?_
      rintro e w10 ⟨rfl,vo2,vt2,R2,evs2,x10,hev2,hrep2,hon2,f10⟩
      have fT:=(HF9.out.trans (Fr.of hbX _)).trans f10
      have I2:=HI.out.next HH.out.st hl hw hkf (by have:=HH.out.home.b.size;have:=HD.out.2.2.2;omega) HAH.out x10 hev2 hrep2 hon2 fT
      have hU10:=fT.row HRows.out.2.2.2.2.2 HI.out.nU
      have cU10:=cell_of_row w10 qU 0 _ _ _ hU10
      have zU10:=frozen_of_row w10 qU 0 _ _ hU10
      have HI2:=Lib.hid I2
      have HC1:=Lib.hid (cell_of_row wr qU 0 _ _ _ HRows.out.2.2.2.2.2)
      have HC2:=Lib.hid (cell_of_row _ qU 0 _ _ _ I2.hU)
      clear fT I2 hU10 x10 hev2 hrep2 hon2 f10 hbX cU c3 lU l3
      go_wp2_with fail
      go_roundw
      case rel=>exact ⟨k+1,_,vo2,R2,vt2,evs2,_,_,_,HI2.out⟩
      case measure =>
       have h1:wr.cell? ⟨qU,0,none⟩=some (.int .i64 (k:Int)):=HC1.out
       have h2:(w10.setCell ⟨qU,0,none⟩ (.int .i64 ((k:Int)+1))).cell? ⟨qU,0,none⟩=some (.int .i64 ((k:Int)+1)):=HC2.out
       rw [h1,h2]
       simp [intOf];omega
    | some ev =>
     rw [hw] at HWt
     go_wp2_with fail
     refine HWt.out.mono ?_
     rintro e w9 ⟨vt9,x9,f9,aa,ca,rfl,hown⟩
     have hr0:=waitsM_nil hw
     subst hr0
     have rows9:∀ {q:Nat} {o:Obj},wr.heap[q]?=some o→¬ allF b vo' R' M vt' q→∀ X,Below w9.heap.size w9 X→X.heap[q]?=some o:=fun h hn X hX=>(hX.block _ (Array.getElem?_eq_some_iff.1 (f9.row h hn)).1).trans (f9.row h hn)
     obtain ⟨wa,hwa⟩:∃ X,X=w9.alloc (.cells #[.int .u32 ev.at_,.int .u32 ev.num,.slice aa ev.args.length ca,.int .u32 0] 42):=⟨_,rfl⟩
     have hba:Below w9.heap.size w9 wa.drew:=by rw [hwa];exact (Bel.new _ _).drew
     have hq11:wa.heap[w9.heap.size]?=some (.cells #[.int .u32 ev.at_,.int .u32 ev.num,.slice aa ev.args.length ca,.int .u32 0] 42 (0,0)):=by rw [hwa];exact heap_alloc_new _ _
     have aE:=rows9 HRows.out.1 HNs.out.1 _ hba
     have aA:=rows9 HRows.out.2.1 HNs.out.2.1 _ hba
     have a3:=rows9 HRows.out.2.2.1 HNs.out.2.2.1 _ hba
     have aP:=rows9 HRows.out.2.2.2.1 HNs.out.2.2.2.1 _ hba
     have aR:=rows9 HRows.out.2.2.2.2.1 HNs.out.2.2.2.2 _ hba
     have aU:=rows9 HRows.out.2.2.2.2.2 HI.out.nU _ hba
     have nE9:=f9.notF (Array.getElem?_eq_some_iff.1 HRows.out.1).1 HNs.out.1
     have nA9:=f9.notF (Array.getElem?_eq_some_iff.1 HRows.out.2.1).1 HNs.out.2.1
     have nR9:=f9.notF (Array.getElem?_eq_some_iff.1 HRows.out.2.2.2.2.1).1 HNs.out.2.2.2.2
     have hE11:w9.heap.size≠qE:=fun e=>by have:=(Array.getElem?_eq_some_iff.1 (f9.row HRows.out.1 HNs.out.1)).1;omega
     have HXA:=Lib.hid (show w9.heap.size≠qA from fun e=>by have:=(Array.getElem?_eq_some_iff.1 (f9.row HRows.out.2.1 HNs.out.2.1)).1;omega)
     have hvo:=HI.out.x.newRow hown x9.m.mem.tr
     have ob:=own_fr (own_base (own_below hown hba)) (Fr.setRow wa.drew qE #[.int .u8 4]) (fun g hg e=>not_row_of (own_base (own_below hown hba)) aE (by decide) (by rw [← e];exact hg))
     have bA:=(Fr.setRow wa.drew qE #[.int .u8 4]).row aA (fun e=>HD.out.2.1.2.2.2.2.1 e.symm)
     have oc:=own_fr ob (Fr.setRow (wa.drew.setRow qE #[.int .u8 4]) qA #[.int .u32 ev.at_,.int .u32 ev.num,.slice aa ev.args.length ca,.int .u32 0]) (fun g hg e=>not_row_of ob bA (by decide) (by rw [← e];exact hg))
     have xb:=(x9.below hba).box aE (by decide) nE9 (Fr.setRow wa.drew qE #[.int .u8 4])
     have xc:=xb.box bA (by decide) nA9 (Fr.setRow (wa.drew.setRow qE #[.int .u8 4]) qA #[.int .u32 ev.at_,.int .u32 ev.num,.slice aa ev.args.length ca,.int .u32 0])
     have hw0:w0.heap.size≤w.heap.size:=HH.out.home.b.size
     have hoc:=(((HI.out.home.fr f9).fr (Fr.of hba _)).box (Fr.setRow wa.drew qE #[.int .u8 4]) (Nat.le_trans hw0 HD2.out.1)).box (Fr.setRow (wa.drew.setRow qE #[.int .u8 4]) qA #[.int .u32 ev.at_,.int .u32 ev.num,.slice aa ev.args.length ca,.int .u32 0]) (Nat.le_trans hw0 HD2.out.2)
     have frc:=((((HFw.out.trans f9).trans (Fr.of hba _)).box (Fr.setRow wa.drew qE #[.int .u8 4]) HD2.out.1)).box (Fr.setRow (wa.drew.setRow qE #[.int .u8 4]) qA #[.int .u32 ev.at_,.int .u32 ev.num,.slice aa ev.args.length ca,.int .u32 0]) HD2.out.2
     have st:∀ {q:Nat} {o:Obj},wa.drew.heap[q]?=some o→q≠qE→q≠qA→((wa.drew.setRow qE #[.int .u8 4]).setRow qA #[.int .u32 ev.at_,.int .u32 ev.num,.slice aa ev.args.length ca,.int .u32 0]).heap[q]?=some o:=fun h h1 h2=>(setRow_other _ _ _ _ h2).trans ((setRow_other _ _ _ _ h1).trans h)
     have cE:((wa.drew.setRow qE #[.int .u8 4]).setRow qA #[.int .u32 ev.at_,.int .u32 ev.num,.slice aa ev.args.length ca,.int .u32 0]).heap[qE]?=some (.cells #[.int .u8 4] 38 (0,0)):=(setRow_other _ _ _ _ HD.out.2.1.2.2.2.2.1).trans (setRow_heap _ _ _ _ _ _ aE)
     have cA:((wa.drew.setRow qE #[.int .u8 4]).setRow qA #[.int .u32 ev.at_,.int .u32 ev.num,.slice aa ev.args.length ca,.int .u32 0]).heap[qA]?=some (.cells #[.int .u32 ev.at_,.int .u32 ev.num,.slice aa ev.args.length ca,.int .u32 ev.val] 42 (0,0)):=by
      rw [waitsM_val hw]
      exact setRow_heap _ _ _ _ _ _ bA
     have HRc:=Lib.hid (And.intro cE (And.intro cA (And.intro (st a3 HD.out.2.1.2.2.2.2.2.2.2.1 HD.out.2.1.2.2.2.2.2.2.2.2) (And.intro (st aP HD.out.2.1.2.2.2.2.2.1 HD.out.2.1.2.2.2.2.2.2.1) (And.intro (st aR (fun e=>HD.out.1.1 e.symm) (fun e=>HD.out.1.2.2.1 e.symm)) (st aU (fun e=>HD.out.2.1.1 e.symm) (fun e=>HD.out.2.1.2.2.1 e.symm)))))))
     have HXc:=Lib.hid xc
     have HHc:=Lib.hid hoc
     have HFc:=Lib.hid frc
     have HOc:=Lib.hid (And.intro oc (And.intro hvo nR9))
     have HaE:=Lib.hid aE
     have HbA:=Lib.hid bA
     have HRp:=Lib.hid (RepsS.none' (F':=allF b vo' R' M vt9) (w':=(wa.drew.setRow qE #[.int .u8 4]).setRow qA #[.int .u32 ev.at_,.int .u32 ev.num,.slice aa ev.args.length ca,.int .u32 0]) HI.out.rep)
     have t11:=cells62 hq11
     have hH0:(wa.drew.cell? ⟨w9.heap.size,0,none⟩=some (.int .u32 ev.at_)∧wa.drew.cell? ⟨w9.heap.size,1,none⟩=some (.int .u32 ev.num))∧(wa.drew.cell? ⟨w9.heap.size,2,none⟩=some (.slice aa ev.args.length ca)∧wa.drew.cell? ⟨w9.heap.size,3,none⟩=some (.int .u32 0)):=⟨⟨t11.1,t11.2.1⟩,⟨t11.2.2.1,t11.2.2.2⟩⟩
     have hH1:((wa.drew.setRow qE #[.int .u8 4]).cell? ⟨w9.heap.size,0,none⟩=some (.int .u32 ev.at_)∧(wa.drew.setRow qE #[.int .u8 4]).cell? ⟨w9.heap.size,1,none⟩=some (.int .u32 ev.num))∧((wa.drew.setRow qE #[.int .u8 4]).cell? ⟨w9.heap.size,2,none⟩=some (.slice aa ev.args.length ca)∧(wa.drew.setRow qE #[.int .u8 4]).cell? ⟨w9.heap.size,3,none⟩=some (.int .u32 0)):=by
      have t:=cells62 ((setRow_other wa.drew qE _ #[.int .u8 4] hE11).trans (hq11:wa.drew.heap[w9.heap.size]?=_))
      exact ⟨⟨t.1,t.2.1⟩,⟨t.2.2.1,t.2.2.2⟩⟩
     clear rows9 aE aA a3 aP aR aU nE9 nA9 nR9 hE11 hvo ob bA oc xb xc hw0 hoc frc st cE cA x9 f9 hown t11 hba hq11 k3 k66
     go_wp2_with fail
     rw [← hwa]
     clear hwa
     refine wp_region_noPanic ?_
     refine wp_region_held_drew (S:=fun W=>(W.cell? ⟨w9.heap.size,0,none⟩=some (.int .u32 ev.at_)∧W.cell? ⟨w9.heap.size,1,none⟩=some (.int .u32 ev.num))∧(W.cell? ⟨w9.heap.size,2,none⟩=some (.slice aa ev.args.length ca)∧W.cell? ⟨w9.heap.size,3,none⟩=some (.int .u32 0))) hmx hH0 (fun hHeld=>?_)
     refine tk 0 hHeld ?_
     refine rd 1 ⟨none,.store 38 (.tmp 8) (.const (.int .u8 4)),_,_,_,none⟩ fun K hK=>?_
     rw [if_pos (by rfl)]
     refine outs_wp (R:=fun v W'=>v=undef∧W'=wa.drew.setRow qE #[.int .u8 4]) (outs_store_one 38 (.tmp 8) (.const (.int .u8 4)) rfl qE _ rfl rfl rfl 38 _ HaE.out tinfo59 ⟨rfl,rfl⟩) ?_
     rintro _ _ ⟨rfl,rfl⟩
     refine hK.out _ _ hH1 (fun _=>?_)
     clear hK K
     try simp only [Act.put,aT,aZ,aS]
     refine rd 2 ⟨none,.store 42 (.tmp 10) (.tmp 54),_,_,_,none⟩ fun K hK=>?_
     rw [if_pos (by rfl)]
     refine outs_wp (R:=fun v W'=>v=undef∧W'=(wa.drew.setRow qE #[.int .u8 4]).setRow qA #[.int .u32 ev.at_,.int .u32 ev.num,.slice aa ev.args.length ca,.int .u32 0]) (outs_store_row 42 (.tmp 10) (.tmp 54) rfl qA _ rfl rfl 42 _ HbA.out info62 (by rfl) (by simp [Value.oneCell']) ⟨rfl,rfl⟩) ?_
     rintro _ _ ⟨rfl,rfl⟩
     have hH2:=held4 (wa.drew.setRow qE #[.int .u8 4]) (q:=qA) (row:=#[.int .u32 ev.at_,.int .u32 ev.num,.slice aa ev.args.length ca,.int .u32 0]) hH1 (fun e=>HXA.out e)
     refine hK.out _ _ hH2 (fun _=>?_)
     clear hK K
     try simp only [Act.put,aT,aZ,aS]
     refine wpAnyH_done (by kernel_rfl) ?_ _
     refine NoPanic.normal ?_
     clear hHeld hH0 hH1 hH2
     go_wp2_with fail
     refine go_door HH.out rfl rfl HXc.out HHc.out HI.out.wf HI.out.fit HRp.out HI.out.on HFc.out HRc.out.1 HRc.out.2.2.1 (ask:=ev) (va:=.slice aa ev.args.length ca) HRc.out.2.1 HOc.out.1 HOc.out.2.1 HRc.out.2.2.2.2.1 rfl HRc.out.2.2.2.2.2 HRc.out.2.2.2.1 HPN.out.1 HPN.out.2 HI.out.rl HD.out.1.1 HD.out.1.2.1 HD.out.1.2.2.1 HD.out.1.2.2.2.1 HD.out.1.2.2.2.2 HOc.out.2.2 HD.out.2.2.1 HGG.out ?_
     rw [HI.out.goes,HI.out.lgq]
     obtain ⟨e1,e2,e3⟩:=res_asks (n:=reps.length) (gr:=gr) (k:=k) (reps':=[]) (t:=t) (e:=evs'.map (·.1)) (ev:=ev) (f:=fu - k) (mo:=moOf m) hl hw
     exact ⟨e1,e2,by rw [e3]⟩
   ·have hl2:¬ ((s'.life:Nat):Int)=1:=by omega
    clear I
    go_wp2_with fail
    refine go_door HH.out rfl rfl HI.out.x HI.out.home HI.out.wf HI.out.fit HI.out.rep HI.out.on HFw.out HRows.out.1 HRows.out.2.2.1 (ask:=askZ) (va:=.slice none 0 0) HRows.out.2.1 (World.ownsRow_nil _ _ _ _) (fun g e=>by cases e) HRows.out.2.2.2.2.1 rfl HRows.out.2.2.2.2.2 HRows.out.2.2.2.1 HPN.out.1 HPN.out.2 HI.out.rl HD.out.1.1 HD.out.1.2.1 HD.out.1.2.2.1 HD.out.1.2.2.2.1 HD.out.1.2.2.2.2 HNs.out.2.2.2.2 HD.out.2.2.1 HGG.out ?_
    rw [HI.out.goes,HI.out.lgq]
    obtain ⟨e1,e2,e3⟩:=res_still (n:=reps.length) (gr:=gr) (k:=k) (reps':=reps') (t:=t) (e:=evs'.map (·.1)) (en:=3) (ask:=askZ) (f:=fu - k) (mo:=moOf m) hl
    exact ⟨e1,e2,by rw [e3]⟩
 ·have hl2:¬ ((s.life:Nat):Int)=1:=by omega
  go_wp2_with fail
  refine (HRs.out w2 (Below.refl _ _)).mono ?_
  rintro e w3 ⟨rfl,hb3⟩
  have hR3:=Lib.hid ((hb3.block _ (Array.getElem?_eq_some_iff.1 HR2.out).1).trans HR2.out)
  have hB3:=Lib.hid (Bel.tr HB2.out hb3)
  clear hb3
  unfold restRow
  go_wp2_with ((with_reducible refine wpList_store_row (o:=⟨none,.store 44 (.tmp 6) (.tmp 33),_,_,_,none⟩) rfl 44 _ _ rfl (w.heap.size+1+1) (restRow s) ?_ ?_ 44 _ hR3.out ?_ ?_ ?_ ?_);rfl;rfl;exact info64;rfl;(unfold restRow;simp [Value.oneCell']))
  refine ⟨_,results_cell_tmp Tryz.results9 _ _ (w.heap.size+1+1) 44 _ (0,0) _ rfl (setRow_heap _ _ _ _ _ _ hR3.out) Tryz.underlying44 rfl (size64 _ _ _ _ _ _ _ _ _ _ _) _ rfl,?_⟩
  exact goOut_still HH.out hl _ (below_setRow hB3.out _ (by omega) _)
end
theorem words_new2 (w:World) (x y:Nat) (hx:x<4294967296) (hy:y<4294967296):Words (w.alloc (.cells #[.int .u32 (x:Int),.int .u32 (y:Int)] 25)) (.slice (some ⟨w.heap.size,0,none⟩) 2 2) [x,y]:=by
 refine ⟨⟨_,_,rfl,rfl,Nat.le_refl _,by unfold maxLen;decide,(fun h=>by cases h),fun _=>⟨w.heap.size,0,rfl,by simp,fun j hj=>?_⟩⟩,fun k=>?_⟩
 ·have hj':j<2:=hj
  rw [Nat.zero_add]
  refine (cell_of_row (w.alloc (.cells #[.int .u32 (x:Int),.int .u32 (y:Int)] 25)) w.heap.size j _ _ _ (heap_alloc_new _ _)).trans ?_
  have:j=0 ∨ j=1:=by omega
  rcases this with rfl|rfl <;> rfl
 ·rcases k with _|_|k
  ·exact hx
  ·exact hy
  ·show ([x,y]:List Nat).getD (k+2) 0<_
   simp
theorem reps_new1 (w:World) (x:Nat) (hx:x<4294967296) {F:Nat→Prop} (hF:¬ F w.heap.size):RepsS (w.alloc (.cells #[.int .u32 (x:Int),.slice none 0 0] 69)) F (.slice (some ⟨w.heap.size,0,none⟩) 1 1) [⟨x,[]⟩]:=by
 refine ⟨_,_,rfl,Nat.le_refl _,by unfold maxLen;decide,fun r hr=>by simp at hr;rw [hr];exact hx,fun _=>⟨w.heap.size,0,fun _=>.slice none 0 0,rfl,by simp,hF,fun i hi=>?_⟩⟩
 have hi0:i=0:=by simp at hi;omega
 subst hi0
 refine ⟨cell_of_row (w.alloc (.cells #[.int .u32 (x:Int),.slice none 0 0] 69)) w.heap.size 0 _ _ _ (heap_alloc_new _ _),cell_of_row (w.alloc (.cells #[.int .u32 (x:Int),.slice none 0 0] 69)) w.heap.size 1 _ _ _ (heap_alloc_new _ _),none,0,rfl,Nat.le_refl _,Nat.zero_le _,by simp,by simp⟩
theorem evs_one {w:World} {F:Nat→Prop} {v:Value} {l:List Ev} (h:EvsAt w F v l) (hl:l.map (fun e=>e.args)=[[5]]) :
 ∃ gb off cap ga oa ca,v=.slice (some ⟨gb,off,none⟩) 1 cap∧gb<w.heap.size∧ga<w.heap.size∧w.cell? ⟨gb,off+2,none⟩=some (.slice (some ⟨ga,oa,none⟩) 1 ca)∧w.cell? ⟨ga,oa,none⟩=some (.int .u32 5):=by
 obtain ⟨xs,hx,ho,-,hw⟩:=h
 have hlen:xs.length=1:=by
  have:=congrArg List.length hl
  rw [List.length_map,← hx,List.length_map] at this
  exact this
 match xs,hlen with
 | [x],_ =>
  have hxa:x.1.args=[5]:=by
   rw [← hx] at hl
   simpa using hl
  obtain ⟨a,c,rfl,hl1,-,-,-,hp⟩:=own_reads ho
  obtain ⟨gb,off,rfl,hgb,hc⟩:=hp (by simp)
  have hw1:=(hw x (by simp)).1
  rw [hxa] at hw1
  obtain ⟨a2,c2,hv2,-,-,-,-,hp2⟩:=own_reads hw1
  obtain ⟨ga,oa,rfl,hga,hc2⟩:=hp2 (by simp)
  refine ⟨gb,off,c,ga,oa,c2,rfl,hgb,hga,?_,?_⟩
  ·refine (hc 2 (by simp [encE])).trans ?_
   show some x.2=_
   rw [hv2]
   rfl
  ·exact (hc2 0 (by simp [encN])).trans rfl
section
variable {w:World}
theorem rawake_any (w:World):Calls Tryz.prog 7 #[] w fun e w'=>e=.returned (.bool true)∧Below w.heap.size w w':=by
 have hz:=zero64
 have h1:=kn_b162
 have h2:=kn_bs53
 have h3:=run_bs23_2
 have HK:=Lib.hid (known_any 1 (by decide) (by decide) w)
 go_enter Tryz.func7,Tryz.ntmps7
 go_wp2_with fail
 refine HK.out.mono ?_
 rintro e w1 ⟨hb1,w0,b,K,M,vo,mb,rfl,hb0,hr⟩
 have hfl:=hr.x.flt
 have hbn:=Bel.new w1 (.cells #[.int .u32 ((5:Nat):Int),.int .u32 ((6:Nat):Int)] 25)
 have hr2:Rdy w0 (w1.alloc (.cells #[.int .u32 ((5:Nat):Int),.int .u32 ((6:Nat):Int)] 25)) b K (moOf imK).fst vo R0 M (.slice none 0 0) [] [(1,1)] mb imK:=⟨hr.st,hr.x.below hbn,hr.home.fr (Fr.of hbn _),hr.wf,hr.fit,hr.rn,hr.en⟩
 have HSt:=Lib.hid (mstart_any hr2 (at_:=0) (by decide) (words_new2 w1 5 6 (by decide) (by decide)) (fun b' off n c e h0 hF=>by
  cases e
  have:=hfl _ hF
  omega))
 have HB1:=Lib.hid hb1
 have HB0:=Lib.hid hb0
 have HBn:=Lib.hid hbn
 clear hr hfl hr2 hb1 hb0 hbn
 go_wp2_with fail
 refine HSt.out.mono ?_
 rintro e w2 (⟨hbg,-⟩|⟨-,hlen,-⟩|⟨-,-,rfl,hrd,hfr⟩)
 ·rw [begK] at hbg;cases hbg
 ·exact absurd hlen (by decide)
 have hfl:=hrd.x.flt
 have hbn2:=Bel.new w2 (.cells #[.int .u32 ((9:Nat):Int),.slice none 0 0] 69)
 have hrd2:Rdy w0 (w2.alloc (.cells #[.int .u32 ((9:Nat):Int),.slice none 0 0] 69)) b K stK (.slice none 0 0) R0 M (.slice none 0 0) [] [(1,1)] mb imK:=⟨hrd.st,hrd.x.below hbn2,hrd.home.fr (Fr.of hbn2 _),hrd.wf,hrd.fit,hrd.rn,hrd.en⟩
 have HGo:=Lib.hid (go_any hrd2 (fu:=100) (by decide) (reps_new1 w2 9 (by decide) (fun e=>by have:=hfl _ e;omega)) (by decide))
 have HHome:=Lib.hid (hrd.home.b)
 clear hrd hfl hrd2 hfr
 go_wp2_with fail
 refine HGo.out.mono ?_
 rintro e w3 ⟨v,vo3,R3,vt3,rfl,hres,hrd3,-,-⟩
 have hres':ResAt w3 (allF b vo3 R3 M vt3) v (resOf 1 goK):=hres
 obtain ⟨g1,g2,g3,g4⟩:=goK_is
 obtain ⟨ve,va,rfl,hev,hva,-⟩:=hres'
 obtain ⟨gb,off,cap,ga,oa,ca,rfl,hgb,hga,cc1,cc2⟩:=evs_one hev g4
 obtain ⟨a9,c9,hv9,-⟩:=own_sl hva
 generalize (resOf 1 goK).ask.args.length=n9 at *
 subst hv9
 unfold resRow
 rw [g1,g2,g3]
 generalize resOf 1 goK=r at *
 have HB3:=Lib.hid (Bel.tr HB0.out hrd3.home.b)
 clear hev hva hres g1 g2 g3 g4 hrd3
 obtain ⟨W4,hW4⟩:∃ W4,W4=w3.alloc (.cells #[.int .u8 (1:Nat),.int .u32 r.at_,.int .u32 (9:Nat),.int .u8 r.fault,.int .i64 (7:Nat),.int .i64 r.nrep,.slice (some ⟨gb,off,none⟩) 1 cap,.int .u32 r.ask.at_,.int .u32 r.ask.num,.slice a9 n9 c9,.int .u32 r.ask.val] 44):=⟨_,rfl⟩
 have hb4:Below w3.heap.size w3 W4:=by rw [hW4];exact Bel.new _ _
 have hr4:W4.heap[w3.heap.size]?=some (.cells #[.int .u8 (1:Nat),.int .u32 r.at_,.int .u32 (9:Nat),.int .u8 r.fault,.int .i64 (7:Nat),.int .i64 r.nrep,.slice (some ⟨gb,off,none⟩) 1 cap,.int .u32 r.ask.at_,.int .u32 r.ask.num,.slice a9 n9 c9,.int .u32 r.ask.val] 44 (0,0)):=by rw [hW4];exact heap_alloc_new _ _
 obtain ⟨⟨q0,-,q2,-,q4,-⟩,q6,-⟩:=cells64 hr4
 have p1:=(hb4.cell (p:=⟨gb,off+2,none⟩) hgb).trans cc1
 have p2:=(hb4.cell (p:=⟨ga,oa,none⟩) hga).trans cc2
 rw [hW4] at q0 q2 q4 q6 p1 p2
 have HB4:=Lib.hid (Bel.tr HB3.out hb4)
 rw [hW4] at HB4
 clear hb4 hr4 hW4
 go_wp2_with fail
 go_ret
 exact ⟨rfl,HB4.out⟩
end
def pickN (x:Int) (n:Nat):Nat:=if x.tmod n<0 then (x.tmod n+n).toNat else (x.tmod n).toNat
theorem pickN_any (x:Int) (n:Nat) (h0:0<n) (hn:n≤4294967296) (w:World) :
 Calls Tryz.prog 31 #[.int .i64 x,.int .i64 n] w fun e w'=>e=.returned (.int .i64 (pickN x n))∧w'=w:=by
 have h1:decide ((n:Int)<1)=false:=decide_eq_false (by omega)
 have hne:((n:Int) == 0)=false:=by simp;omega
 have hb:-(n:Int)<x.tmod n∧x.tmod n<n:=by
  have e:=Int.tmod_lt_of_pos x (show (0:Int)<n by omega)
  refine ⟨?_,e⟩
  have:=Int.tmod_lt_of_pos (-x) (show (0:Int)<n by omega)
  rw [Int.neg_tmod] at this
  omega
 go_enter Tryz.func31,Tryz.ntmps31
 go_wp2
 ·rename_i hs
  go_ret
  refine ⟨?_,rfl⟩
  unfold pickN
  rw [if_pos hs,Int.toNat_of_nonneg (by omega)]
  first|rfl|(rw [show IntKind.i64.wrap (x.tmod n+n)=x.tmod n+n from IntWalk.i64_in _ (by omega)])
 ·rename_i hs
  go_ret
  refine ⟨?_,rfl⟩
  unfold pickN
  rw [if_neg (by omega),Int.toNat_of_nonneg (by omega)]
  rfl
theorem pickN_lt (x:Int) (n:Nat) (h0:0<n):pickN x n<n:=by
 have e:=Int.tmod_lt_of_pos x (show (0:Int)<n by omega)
 have h2:=Int.tmod_lt_of_pos (-x) (show (0:Int)<n by omega)
 rw [Int.neg_tmod] at h2
 unfold pickN
 split <;> omega
theorem few_any (x:Int) (n:Nat) (hn:n≤4294967295) (w:World) :
 Calls Tryz.prog 10 #[.int .i64 x,.int .i64 n] w fun e w'=>e=.returned (.int .i64 (pickN x (n+1)))∧w'=w:=by
 have H:=Lib.hid (pickN_any x (n+1) (by omega) (by omega) w)
 have hw:IntKind.i64.wrap ((n:Int)+1)=((n+1:Nat):Int):=by rw [IntWalk.i64_in _ (by omega)];rfl
 generalize pickN x (n+1)=r at *
 go_enter Tryz.func10,Tryz.ntmps10
 go_wp2_with fail
 refine H.out.mono ?_
 rintro e w1 ⟨rfl,rfl⟩
 go_wp2_with fail
 go_ret
 exact ⟨rfl,rfl⟩
structure RunOk (m:Img) (gr:List (Nat×Int)) (at_:Nat) (args:List Nat):Prop where
 t:TakeOk m
 g:GrOk gr
 b:(moOf m).begins at_=true
 a:args.length≤15
def RunningPost (m:Img) (gr:List (Nat×Int)) (at_:Nat) (args:List Nat) (w:World) (e:Ending) (w':World):Prop :=
 Below w.heap.size w w'∧((¬ RunOk m gr at_ args∧e=.returned (.tuple #[.pointer none,.pointer none])) ∨
  (RunOk m gr at_ args∧∃ w0 b K M mb,e=.returned (.tuple #[.pointer (some ⟨mb,0,none⟩),.pointer (some ⟨b,0,none⟩)])∧Below w.heap.size w w0∧Rdy w0 w' b K (startM (moOf m) (moOf m).fst at_ args) (.slice none 0 0) R0 M (.slice none 0 0) [] gr mb m))
section
variable {w:World}
theorem running_any {vc vj vd vn vg va:Value} {m:Img} {gr:List (Nat×Int)} {at_:Nat} {args:List Nat} (hi:ImgAt w vc vj vd vn m) (hg:GrantsAt w vg gr) (ha:at_<4294967296) (hv:Words w va args) :
 Calls Tryz.prog 8 #[.agg #[vc,vj,vd,.int .u32 m.zero,.int .u32 m.stack,vn,vg],.int .u32 at_,va] w (RunningPost m gr at_ args w):=by
 obtain ⟨ac,nc,cc,hvc⟩:∃ a n c,vc=.slice a n c:=by obtain ⟨⟨a,c,h,-⟩,-⟩:=hi.c;exact ⟨a,_,c,h⟩
 obtain ⟨aj,nj,cj,hvj⟩:∃ a n c,vj=.slice a n c:=by obtain ⟨⟨a,c,h,-⟩,-⟩:=hi.j;exact ⟨a,_,c,h⟩
 obtain ⟨ad,nd,cd,hvd⟩:∃ a n c,vd=.slice a n c:=by obtain ⟨⟨a,c,h,-⟩,-⟩:=hi.d;exact ⟨a,_,c,h⟩
 obtain ⟨an,nn,cn,hvn⟩:∃ a n c,vn=.slice a n c:=by obtain ⟨⟨a,c,h,-⟩,-⟩:=hi.n;exact ⟨a,_,c,h⟩
 obtain ⟨ag,ng,cg,hvg⟩:∃ a n c,vg=.slice a n c:=by obtain ⟨⟨a,c,h,-⟩,-⟩:=hg;exact ⟨a,_,c,h⟩
 obtain ⟨aa,na,ca,hva⟩:∃ a n c,va=.slice a n c:=by obtain ⟨⟨a,c,h,-⟩,-⟩:=hv;exact ⟨a,_,c,h⟩
 subst hvc hvj hvd hvn hvg hva
 obtain ⟨W1,hW1⟩:∃ W1,W1=w.alloc (.cells #[.slice ac nc cc,.slice aj nj cj,.slice ad nd cd,.int .u32 m.zero,.int .u32 m.stack,.slice an nn cn,.slice ag ng cg] 31):=⟨_,rfl⟩
 have hb1:Below w.heap.size w W1:=by rw [hW1];exact Bel.new _ _
 have hr1:W1.heap[w.heap.size]?=some (.cells #[.slice ac nc cc,.slice aj nj cj,.slice ad nd cd,.int .u32 m.zero,.int .u32 m.stack,.slice an nn cn,.slice ag ng cg] 31 (0,0)):=by rw [hW1];exact heap_alloc_new _ _
 have c0:=cell_of_row W1 w.heap.size 0 _ _ _ hr1
 have c1:=cell_of_row W1 w.heap.size 1 _ _ _ hr1
 have c2:=cell_of_row W1 w.heap.size 2 _ _ _ hr1
 have c3:=cell_of_row W1 w.heap.size 3 _ _ _ hr1
 have c4:=cell_of_row W1 w.heap.size 4 _ _ _ hr1
 have c5:=cell_of_row W1 w.heap.size 5 _ _ _ hr1
 rw [hW1] at c0 c1 c2 c3 c4 c5
 have HTk:=Lib.hid (takeV_any _ _ _ _ m W1 (hi.below hb1))
 have HG:=Lib.hid hg
 have HV:=Lib.hid hv
 have HB1:=Lib.hid hb1
 have HR1:=Lib.hid hr1
 have HI:=Lib.hid hi
 obtain ⟨ze,hze⟩:∃ ze,ze=m.zero:=⟨_,rfl⟩
 obtain ⟨st,hst⟩:∃ st,st=m.stack:=⟨_,rfl⟩
 obtain ⟨Ψ,hΨ⟩:∃ Ψ,Ψ=RunningPost m gr at_ args w:=⟨_,rfl⟩
 rw [← hΨ]
 have HPsi:=Lib.hid hΨ
 rw [← hze,← hst] at c3 c4 HTk HR1 hW1 ⊢
 rw [← hze,← hst] at c0 c1 c2 c5
 clear hi hg hv hb1 hr1 hze hst hΨ
 go_enter Tryz.func8,Tryz.ntmps8
 go_wp2_with fail
 rw [← hW1]
 clear hW1 c0 c1 c2 c3 c4 c5
 refine HTk.out.mono ?_
 rintro e w2 ⟨hb2,⟨x,c,rfl,hbad⟩|⟨mb,rfl,hok,hmod⟩⟩
 ·have hcp:=hbad.pos
  have hc0:¬ ((c:Nat):Int)=0:=by omega
  have hcb:(((c:Nat):Int) != 0)=true:=by simp;omega
  have HBd:=Lib.hid hbad
  have HB2:=Lib.hid (Bel.tr HB1.out hb2)
  clear hcp hbad hb2
  go_wp2_with fail
  rw [HPsi.out]
  exact ⟨HB2.out,.inl ⟨fun o=>o.t.not_bad HBd.out,rfl⟩⟩
 have HB2:=Lib.hid (Bel.tr HB1.out hb2)
 have HM2:=Lib.hid (show MAt w2 mb m from ⟨hok,⟨_,hmod⟩,⟨_,_,_,_,_,HI.out⟩⟩)
 have HOk:=Lib.hid hok
 have HNw:=Lib.hid (mnew_any HM2.out (HG.out.below HB2.out))
 have c6:=cell_of_row w2 w.heap.size 6 _ _ _ ((hb2.block _ (Array.getElem?_eq_some_iff.1 HR1.out).1).trans HR1.out)
 clear hb2 hok hmod
 go_wp2_with fail
 refine HNw.out.mono ?_
 rintro e w3 ⟨hb3,⟨hno,rfl⟩|⟨hgo,w0,b,K,M,vo,rfl,hb0,hrdy⟩⟩
 ·have HB3:=Lib.hid (Bel.tr HB2.out hb3)
  clear hb3
  go_wp2_with fail
  rw [HPsi.out]
  exact ⟨HB3.out,.inl ⟨fun o=>hno o.g,rfl⟩⟩
 have HB3:=Lib.hid (Bel.tr HB2.out hb3)
 have HB0:=Lib.hid (Bel.tr HB2.out hb0)
 have HSt:=Lib.hid (mstart_any hrdy ha (HV.out.below HB3.out) (Out.home (hrdy.home) (HV.out.below HB0.out).1))
 have HGo:=Lib.hid hgo
 have HHm:=Lib.hid hrdy.home
 clear hb3 hb0 hrdy hgo c6
 go_wp2_with fail
 refine HSt.out.mono ?_
 rintro e w4 (⟨hbg,rfl,hb4⟩|⟨hbg,hlen,rfl,hb4⟩|⟨hbg,hlen,rfl,hrd,hfr⟩)
 ·have HB4:=Lib.hid (Bel.tr HB3.out hb4)
  clear hb4
  go_wp2_with fail
  rw [HPsi.out]
  exact ⟨HB4.out,.inl ⟨fun o=>(by rw [o.b] at hbg;cases hbg),rfl⟩⟩
 ·have HB4:=Lib.hid (Bel.tr HB3.out hb4)
  clear hb4
  go_wp2_with fail
  rw [HPsi.out]
  exact ⟨HB4.out,.inl ⟨fun o=>(by have:=o.a;omega),rfl⟩⟩
 ·have HRd:=Lib.hid hrd
  clear hfr hrd
  go_wp2_with fail
  rw [HPsi.out]
  exact ⟨Bel.tr HB0.out HRd.out.home.b,.inr ⟨⟨HOk.out,HGo.out,hbg,hlen⟩,w0,b,K,M,mb,rfl,HB0.out,HRd.out⟩⟩
end
end Go.Proofs.YtdffaepbkecoeaaGreat
/-! What has ended, or waits, tells it again: plain. -/
namespace Go.Proofs.YtdffaepbkecoeaaGreat
set_option linter.unusedVariables false
def LifeI (x:St×List (Nat×Bool)):Prop:=x.1.life=1 ∨ x.1.life=2 ∨ x.1.life=3
theorem LifeI.ite {c:Prop} [Decidable c] {x y:St×List (Nat×Bool)} (h1:LifeI x) (h2:LifeI y):LifeI (if c then x else y):=by
 split
 ·exact h1
 ·exact h2
theorem LifeI.k {s:St} {t:List (Nat×Bool)} (h:s.life=1):LifeI (s,t):=.inl h
theorem LifeI.two {s:St} {t:List (Nat×Bool)} (h:s.life=2):LifeI (s,t):=.inr (.inl h)
theorem LifeI.flt (s:St) (f:Nat) (t:List (Nat×Bool)):LifeI (s.flt f,t):=.inr (.inr rfl)
theorem leaveM_life (m:Mo) (a:Nat) {s:St} (h1:s.life=1):LifeI (leaveM m a s):=by
 unfold leaveM
 generalize (s.sp+a) % 4294967296=x
 generalize loadN s.data x 4=y
 generalize touN m.size x 4 false=l
 generalize (4294967295:Nat)=k
 repeat' (first|exact LifeI.flt _ _ _|exact LifeI.k h1|exact LifeI.two rfl|refine LifeI.ite ?_ ?_)
theorem callM_life (m:Mo) {s:St} (h1:s.life=1):LifeI (callM m s):=by
 unfold callM
 generalize topW s 0=y
 generalize storeN s.data s.sp (s.pc+1) 4=d
 generalize touN m.size s.sp 4 true=l
 repeat' (first|exact LifeI.flt _ _ _|exact LifeI.k h1|refine LifeI.ite ?_ ?_)
theorem actM_life (m:Mo) (o a:Nat) {s:St} (h1:s.life=1):LifeI (actM m o a s):=by
 unfold actM
 repeat' (first|exact leaveM_life m _ h1|exact callM_life m h1|exact LifeI.flt _ _ _|exact LifeI.k h1|refine LifeI.ite ?_ ?_)
theorem stepM_life (m:Mo) (gr:List (Nat×Int)) (reps:List Rep) {s:St} (h1:s.life=1):(stepM m gr reps s).st.life=1 ∨ (stepM m gr reps s).st.life=2 ∨ (stepM m gr reps s).st.life=3:=by
 unfold stepM
 split
 ·exact actM_life _ _ _ h1
 ·split
  ·exact .inl h1
  ·exact .inr (.inr rfl)
theorem goM_life (m:Mo) (gr:List (Nat×Int)):∀ (f:Nat) (reps:List Rep) {s:St},(s.life=1 ∨ s.life=2 ∨ s.life=3)→((goM m gr f reps s).st.life=1 ∨ (goM m gr f reps s).st.life=2 ∨ (goM m gr f reps s).st.life=3)
 | 0,_,_,h=>h
 | f+1,reps,s,h=>by
  rw [goM]
  split
  ·rename_i c
   exact goM_life m gr f _ (stepM_life m gr reps c.1)
  ·exact h
section
variable {m:Mo} {gr:List (Nat×Int)} {reps later:List Rep} {s:St} {f1 f2:Nat}
theorem ended_rest {s1:St} (hl:s1.life=2 ∨ s1.life=3) {g1:GoR} (hg:g1.st=s1) (n1:Nat) :
 ((resOf n1 g1).en=1 ∨ (resOf n1 g1).en=2)∧s1.pc=(resOf n1 g1).at_∧resOf later.length (goM m gr f2 later s1)=⟨(resOf n1 g1).en,(resOf n1 g1).at_,(resOf n1 g1).value,(resOf n1 g1).fault,0,0,[],askZ⟩∧(goM m gr f2 later s1).st=s1:=by
 have h1:s1.life≠1:=by omega
 rw [goM_still h1]
 subst hg
 unfold resOf
 rw [if_neg h1]
 simp only [if_neg h1,Nat.sub_self]
 refine ⟨?_,?_,by first|trivial|rfl,by first|trivial|rfl⟩
 ·unfold restE
  rcases hl with h|h
  ·left;rw [if_pos h]
  ·right;rw [if_neg (by omega),if_pos h]
 ·unfold restP
  rcases hl with h|h
  ·rw [if_pos h]
  ·rw [if_neg (by omega),if_pos h]
theorem ended_wait {g1:GoR} (hg:g1=goM m gr f1 reps s) (hl:g1.st.life=1) (n1:Nat) :
 ((resOf n1 g1).en=3 ∨ (resOf n1 g1).en=4)∧((resOf n1 g1).en=4→resOf 0 (goM m gr f2 [] g1.st)=⟨4,(resOf n1 g1).at_,0,0,0,0,[],(resOf n1 g1).ask⟩∧(goM m gr f2 [] g1.st).st=g1.st):=by
 have ha:=goM_ask m gr f1 reps s
 rw [← hg,if_pos hl] at ha
 unfold resOf
 rw [if_pos hl]
 cases hk:g1.ask with
 | none=>exact ⟨.inl rfl,fun h=>by simp at h⟩
 | some ev =>
  refine ⟨.inr rfl,fun _=>?_⟩
  rw [hk] at ha
  have hr:=waitsM_nil ha.symm
  rw [hr] at ha
  rw [goM_asks hl ha.symm]
  simp [hl]
theorem ended_more {s1:St} (hl:s1.life=1):0<(resOf later.length (goM m gr f2 later s1)).used ∨ ((resOf later.length (goM m gr f2 later s1)).en=3∧f2=0) ∨ (resOf later.length (goM m gr f2 later s1)).en=4:=by
 cases hw:waitsM m gr later s1 with
 | some ev =>
  right;right
  rw [goM_asks hl hw]
  unfold resOf
  simp [hl]
 | none =>
  cases f2 with
  | zero =>
   right;left
   rw [goM_zero hw]
   unfold resOf
   simp [hl]
  | succ f =>
   left
   rw [goM_more hl hw]
   unfold resOf GoR.behind
   split <;> simp
end
end Go.Proofs.YtdffaepbkecoeaaGreat
/-! States that are the same, read through their cells alone. -/
namespace Go.Proofs.YtdffaepbkecoeaaGreat
open Go.RowKit
set_option linter.unusedVariables false
set_option linter.unusedSimpArgs false
structure StR (w:World) (vo vd:Value) (s:St):Prop where
 o:Reads w 1 vo s.ops.length (encN .u32 s.ops)
 d:Bytes w vd s.data
theorem StR.below {w w':World} {vo vd:Value} {s:St} (h:StR w vo vd s) (hb:Below w.heap.size w w'):StR w' vo vd s:=⟨h.o.below hb,h.d.below hb⟩
theorem StR.fr {w w':World} {F F':Nat→Prop} {vo vd:Value} {s:St} (h:StR w vo vd s) (hf:Fr w w' F F') (h1:Out F vo) (h2:Out F vd):StR w' vo vd s∧Out F' vo∧Out F' vd:=⟨⟨(h.o.fr hf h1).1,(h.d.fr hf h2).1⟩,(h.o.fr hf h1).2,(h.d.fr hf h2).2⟩
theorem sameState_r {w:World} {vo vd uo ud:Value} {s:St} (h1:StR w vo vd s) (h2:StR w uo ud s) :
 Calls Tryz.prog 13 #[stV vo vd s,stV uo ud s] w fun e w'=>e=.returned (.bool true)∧Below w.heap.size w w':=by
 obtain ⟨W0,hW0⟩:∃ W0,W0=(w.alloc (.cells #[.int .u8 s.life,.int .u32 s.pc,.int .u32 s.sp,vo,vd,.int .u32 s.value,.int .u8 s.fault] 51)).alloc (.cells #[.int .u8 s.life,.int .u32 s.pc,.int .u32 s.sp,uo,ud,.int .u32 s.value,.int .u8 s.fault] 51):=⟨_,rfl⟩
 have hb0:Below w.heap.size w W0:=by rw [hW0];exact Bel.al (Bel.new _ _) _
 have HSa:=Lib.hid (StB.row (s:=s) (vo:=vo) (vd:=vd) (by rw [hW0,Below.heap_alloc _ _ _ (by simp)];exact heap_alloc_new w _):StB W0 w.heap.size vo vd s)
 have HSb:=Lib.hid (StB.row (s:=s) (vo:=uo) (vd:=ud) (by
  rw [hW0]
  have:=heap_alloc_new (w.alloc (.cells #[.int .u8 s.life,.int .u32 s.pc,.int .u32 s.sp,vo,vd,.int .u32 s.value,.int .u8 s.fault] 51)) (.cells #[.int .u8 s.life,.int .u32 s.pc,.int .u32 s.sp,uo,ud,.int .u32 s.value,.int .u8 s.fault] 51)
  simpa using this):StB W0 (w.heap.size+1) uo ud s)
 have HWd:=Lib.hid (sameWords_yes rfl (h1.o.below hb0) (h2.o.below hb0))
 have HBy:=Lib.hid (fun W (hW:Below W0.heap.size W0 W)=>sameBytes_any ((h1.d.below hb0).below hW) ((h2.d.below hb0).below hW))
 rw [decide_eq_true rfl] at HBy
 have HB0:=Lib.hid hb0
 obtain ⟨a1,c1,rfl,-⟩:=h1.o
 obtain ⟨a2,c2,rfl,-⟩:=h1.d.1
 obtain ⟨a3,c3,rfl,-⟩:=h2.o
 obtain ⟨a4,c4,rfl,-⟩:=h2.d.1
 obtain ⟨d0,d1,d2,d3,d4,d5,d6⟩:=HSa.out
 obtain ⟨e0,e1,e2,e3,e4,e5,e6⟩:=HSb.out
 clear h1 h2 hb0
 unfold stV
 go_enter Tryz.func13,Tryz.ntmps13
 go_wp2_with fail
 rw [← hW0]
 clear hW0
 refine HWd.out.mono ?_
 rintro e w1 ⟨rfl,hb1⟩
 have HBy1:=Lib.hid (HBy.out w1 hb1)
 have HB1:=Lib.hid (Bel.tr HB0.out hb1)
 have f4:=(HSa.out.below hb1).c4
 have g4:=(HSb.out.below hb1).c4
 clear d0 d1 d2 d3 d4 d5 d6 e0 e1 e2 e3 e4 e5 e6 hb1
 go_wp2_with fail
 refine HBy1.out.mono ?_
 rintro e w2 ⟨rfl,hb2⟩
 have HB2:=Lib.hid (Bel.tr HB1.out hb2)
 clear hb2
 go_wp2_with fail
 go_ret
 exact ⟨rfl,HB2.out⟩
theorem resAt_rest (w:World) (F:Nat→Prop) (en at_ value fault:Nat):ResAt w F (.agg #[.int .u8 en,.int .u32 at_,.int .u32 value,.int .u8 fault,.int .i64 0,.int .i64 0,.slice none 0 0,.int .u32 0,.int .u32 0,.slice none 0 0,.int .u32 0]) ⟨en,at_,value,fault,0,0,[],askZ⟩ :=
 ⟨.slice none 0 0,.slice none 0 0,rfl,⟨[],rfl,World.ownsRow_nil _ _ _ _,fun g e=>(by cases e),fun y hy=>(by cases hy)⟩,World.ownsRow_nil _ _ _ _,fun g e=>(by cases e)⟩
theorem resAt_wait {w:World} {F:Nat→Prop} {va:Value} {ask:Ev} (ho:w.ownsRow 0 25 1 va ask.args.length (encN .u32 ask.args)) (hF:∀ g,va.ownBlock=some g→¬ F g) (at_:Nat):ResAt w F (.agg #[.int .u8 (4:Nat),.int .u32 at_,.int .u32 0,.int .u8 0,.int .i64 0,.int .i64 0,.slice none 0 0,.int .u32 ask.at_,.int .u32 ask.num,va,.int .u32 ask.val]) ⟨4,at_,0,0,0,0,[],ask⟩ :=
 ⟨.slice none 0 0,va,rfl,⟨[],rfl,World.ownsRow_nil _ _ _ _,fun g e=>(by cases e),fun y hy=>(by cases hy)⟩,ho,hF⟩
theorem run_b64w (x0 x1 x2 x3:Int) (w:World):(Instr.build 44 #[(0,.int .u8 x0),(1,.int .u32 x1),(2,.int .u32 x2),(3,.int .u8 x3)]).run Tryz.prog w=.ok (.agg #[.int .u8 x0,.int .u32 x1,.int .u32 x2,.int .u8 x3,.int .i64 0,.int .i64 0,.slice none 0 0,.int .u32 0,.int .u32 0,.slice none 0 0,.int .u32 0]) w:=by kernel_rfl
section
variable {w:World}
theorem runEnded_walk {vc vj vd vn vg va vr vl:Value} {m:Img} {gr:List (Nat×Int)} {at_:Nat} {args:List Nat} {n more:Int} {reps later:List Rep} (hi:ImgAt w vc vj vd vn m) (hg:GrantsAt w vg gr) (ha:at_<4294967296) (hv:Words w va args) (hr:RepsAt w vr reps) (hl:RepsAt w vl later) :
 Calls Tryz.prog 3 #[.agg #[vc,vj,vd,.int .u32 m.zero,.int .u32 m.stack,vn,vg],.int .u32 at_,va,.int .i64 n,.int .i64 more,vr,vl] w fun e w'=>e=.returned (.bool true)∧Below w.heap.size w w':=by
 have hmx:Tryz.prog.follows .mixedOrders=true:=by kernel_rfl
 have hz:=zero64
 have hz51:=zeroS51
 have hbw:=run_b64w
 have hbd:=run_b64d
 obtain ⟨ac,nc,cc,hvc⟩:∃ a n c,vc=.slice a n c:=by obtain ⟨⟨a,c,h,-⟩,-⟩:=hi.c;exact ⟨a,_,c,h⟩
 obtain ⟨aj,nj,cj,hvj⟩:∃ a n c,vj=.slice a n c:=by obtain ⟨⟨a,c,h,-⟩,-⟩:=hi.j;exact ⟨a,_,c,h⟩
 obtain ⟨ad,nd,cd,hvd⟩:∃ a n c,vd=.slice a n c:=by obtain ⟨⟨a,c,h,-⟩,-⟩:=hi.d;exact ⟨a,_,c,h⟩
 obtain ⟨an,nn,cn,hvn⟩:∃ a n c,vn=.slice a n c:=by obtain ⟨⟨a,c,h,-⟩,-⟩:=hi.n;exact ⟨a,_,c,h⟩
 obtain ⟨ag,ng,cg,hvg⟩:∃ a n c,vg=.slice a n c:=by obtain ⟨⟨a,c,h,-⟩,-⟩:=hg;exact ⟨a,_,c,h⟩
 obtain ⟨aa,na,ca,hva⟩:∃ a n c,va=.slice a n c:=by obtain ⟨⟨a,c,h,-⟩,-⟩:=hv;exact ⟨a,_,c,h⟩
 obtain ⟨ar,cr,hvr,-⟩:=id hr
 obtain ⟨al,cl,hvl,-⟩:=id hl
 obtain ⟨nr,hnr⟩:∃ nr,nr=reps.length:=⟨_,rfl⟩
 obtain ⟨nl,hnl⟩:∃ nl,nl=later.length:=⟨_,rfl⟩
 rw [← hnr] at hvr
 rw [← hnl] at hvl
 subst hvc hvj hvd hvn hvg hva hvr hvl
 obtain ⟨W1,hW1⟩:∃ W1,W1=w.alloc (.cells #[.slice ac nc cc,.slice aj nj cj,.slice ad nd cd,.int .u32 m.zero,.int .u32 m.stack,.slice an nn cn,.slice ag ng cg] 31):=⟨_,rfl⟩
 have hb1:Below w.heap.size w W1:=by rw [hW1];exact Bel.new _ _
 have hr1:W1.heap[w.heap.size]?=some (.cells #[.slice ac nc cc,.slice aj nj cj,.slice ad nd cd,.int .u32 m.zero,.int .u32 m.stack,.slice an nn cn,.slice ag ng cg] 31 (0,0)):=by rw [hW1];exact heap_alloc_new _ _
 have HRun:=Lib.hid (fun W (hW:Below w.heap.size w W)=>running_any (hi.below hW) (hg.below hW) ha (hv.below hW))
 have HRe:=Lib.hid hr
 have HLa:=Lib.hid hl
 have HB1:=Lib.hid hb1
 have HR1:=Lib.hid hr1
 have HNR:=Lib.hid hnr
 have HNL:=Lib.hid hnl
 obtain ⟨ze,hze⟩:∃ ze,ze=m.zero:=⟨_,rfl⟩
 obtain ⟨st,hst⟩:∃ st,st=m.stack:=⟨_,rfl⟩
 rw [← hze,← hst] at HRun HR1 hW1 ⊢
 obtain ⟨Ψ,hΨ⟩:∃ Ψ:World→Prop,Ψ=fun w'=>Below w.heap.size w w':=⟨_,rfl⟩
 have HPsi:=Lib.hid (fun w' (h:Below w.heap.size w w')=>(by rw [hΨ];exact h:Ψ w'))
 have hgoal:(fun (e:Ending) w'=>e=.returned (.bool true)∧Below w.heap.size w w')=(fun e w'=>e=.returned (.bool true)∧Ψ w'):=by rw [hΨ]
 rw [hgoal]
 clear hi hg hv hr hl hb1 hr1 hnr hnl hze hst hΨ hgoal
 go_enter Tryz.func3,Tryz.ntmps3
 go_wp2_with fail
 rw [← hW1]
 clear hW1
 refine (rawake_any W1).mono ?_
 rintro e w1 ⟨rfl,hb1⟩
 have hr1:=(hb1.block _ (Array.getElem?_eq_some_iff.1 HR1.out).1).trans HR1.out
 have c0:=cell_of_row w1 w.heap.size 0 _ _ _ hr1
 have c1:=cell_of_row w1 w.heap.size 1 _ _ _ hr1
 have c2:=cell_of_row w1 w.heap.size 2 _ _ _ hr1
 have c3:=cell_of_row w1 w.heap.size 3 _ _ _ hr1
 have c4:=cell_of_row w1 w.heap.size 4 _ _ _ hr1
 have c5:=cell_of_row w1 w.heap.size 5 _ _ _ hr1
 have c6:=cell_of_row w1 w.heap.size 6 _ _ _ hr1
 have HBw1:=Lib.hid (Bel.tr HB1.out hb1)
 clear hr1 hb1
 go_wp2_with fail
 clear c0 c1 c2 c3 c4 c5 c6
 refine (HRun.out w1 HBw1.out).mono ?_
 rintro e w2 ⟨hb2,⟨hno,rfl⟩|⟨hok,w0,b,K,M,mb,rfl,hb0,hrd⟩⟩
 ·have HB2:=Lib.hid (Bel.tr HBw1.out hb2)
  clear hb2
  go_wp2_with fail
  go_ret
  exact ⟨rfl,HPsi.out _ HB2.out⟩
 have HBw0:=Lib.hid (Bel.tr HBw1.out hb0)
 have HRd:=Lib.hid hrd
 obtain ⟨s0,hs0⟩:∃ s0,s0=startM (moOf m) (moOf m).fst at_ args:=⟨_,rfl⟩
 rw [← hs0] at HRd
 have HL0:=Lib.hid (show s0.life=1 from by rw [hs0];rfl)
 clear hrd hb2 hb0 hs0 hok
 have HF1:=Lib.hid (show Calls Tryz.prog 10 #[.int .i64 n,.int .i64 65536] w2 (fun e w'=>e=.returned (.int .i64 (pickN n 65537:Nat))∧w'=w2) from few_any n 65536 (by decide) w2)
 have hp1:pickN n 65537≤65536:=by have:=pickN_lt n 65537 (by decide);omega
 obtain ⟨f1,hf1⟩:∃ f1,f1=pickN n 65537:=⟨_,rfl⟩
 rw [← hf1] at HF1 hp1
 have hp2:pickN more 65537≤65536:=by have:=pickN_lt more 65537 (by decide);omega
 have HF2:=Lib.hid (fun W=>(show Calls Tryz.prog 10 #[.int .i64 more,.int .i64 65536] W (fun e w'=>e=.returned (.int .i64 (pickN more 65537:Nat))∧w'=W) from few_any more 65536 (by decide) W))
 obtain ⟨f2,hf2⟩:∃ f2,f2=pickN more 65537:=⟨_,rfl⟩
 rw [← hf2] at HF2 hp2
 have hrs1:=RepsS.home HRd.out.home (HRe.out.below HBw0.out)
 have hx5:s0.ops.length≤65536:=by have:=fits_ops (moOk HRd.out.st.mod.k) HRd.out.fit;omega
 have HRS1:=Lib.hid hrs1
 clear hf1 hf2 hrs1
 go_wp2_with fail
 refine HF1.out.mono ?_
 rintro e w3 ⟨rfl,rfl⟩
 go_wp2_with fail
 by_cases hfit1:repsFit reps=true
 ·have HGo1:=Lib.hid (go_any HRd.out hp1 HRS1.out hfit1)
  refine HGo1.out.mono ?_
  rintro e w4 ⟨v,vo1,R1,vt1,rfl,hres1,hrd1,hon1,hfr1⟩
  clear HGo1
  obtain ⟨g1,hg1⟩:∃ g1,g1=goM (moOf m) gr f1 reps s0:=⟨_,rfl⟩
  rw [← hg1] at hres1 hrd1
  obtain ⟨r1,hr1⟩:∃ r1,r1=resOf reps.length g1:=⟨_,rfl⟩
  rw [← hr1] at hres1
  obtain ⟨s1,hs1⟩:∃ s1,s1=g1.st:=⟨_,rfl⟩
  rw [← hs1] at hrd1
  obtain ⟨ve1,va1,rfl,hev1,hva1,hvo1⟩:=id hres1
  obtain ⟨p1,n1,c1,hve1⟩:∃ a n c,ve1=.slice a n c:=by obtain ⟨xs,-,ho,-⟩:=hev1;obtain ⟨a,c,h,-⟩:=own_sl ho;exact ⟨a,_,c,h⟩
  obtain ⟨p2,n2,c2,hva1'⟩:∃ a n c,va1=.slice a n c:=by obtain ⟨a,c,h,-⟩:=own_sl hva1;exact ⟨a,_,c,h⟩
  subst hve1 hva1'
  have hs1l:=goM_life (moOf m) gr f1 reps (s:=s0) (.inl HL0.out)
  rw [← hg1,← hs1] at hs1l
  unfold resRow
  obtain ⟨W5,hW5⟩:∃ W5,W5=w4.alloc (.cells #[.int .u8 r1.en,.int .u32 r1.at_,.int .u32 r1.value,.int .u8 r1.fault,.int .i64 r1.used,.int .i64 r1.nrep,.slice p1 n1 c1,.int .u32 r1.ask.at_,.int .u32 r1.ask.num,.slice p2 n2 c2,.int .u32 r1.ask.val] 44):=⟨_,rfl⟩
  have hb5:Below w4.heap.size w4 W5:=by rw [hW5];exact Bel.new _ _
  have hr5:W5.heap[w4.heap.size]?=some (.cells #[.int .u8 r1.en,.int .u32 r1.at_,.int .u32 r1.value,.int .u8 r1.fault,.int .i64 r1.used,.int .i64 r1.nrep,.slice p1 n1 c1,.int .u32 r1.ask.at_,.int .u32 r1.ask.num,.slice p2 n2 c2,.int .u32 r1.ask.val] 44 (0,0)):=by rw [hW5];exact heap_alloc_new _ _
  have hops1:s1.ops.length≤65536:=by have:=fits_ops (moOk hrd1.st.mod.k) hrd1.fit;omega
  have HSt1:=Lib.hid (mstate_any (hrd1.x.below hb5).m hrd1.st.md hops1)
  have HRd1:=Lib.hid hrd1
  have HRes1:=Lib.hid hres1
  have HG1:=Lib.hid (And.intro hg1 (And.intro hr1 hs1))
  have HVa1:=Lib.hid (And.intro hva1 hvo1)
  have HB5:=Lib.hid hb5
  have HR5:=Lib.hid hr5
  clear hres1 hrd1 hon1 hfr1 hev1 hva1 hvo1 hg1 hr1 hs1 hb5 hr5
  go_wp2_with fail
  rw [← hW5]
  clear hW5
  refine HSt1.out.mono ?_
  rintro e w6 ⟨v1,v2,rfl,ho1,ho2,hb6⟩
  obtain ⟨o1,o2,hv1,-⟩:=own_sl ho1
  obtain ⟨d1,d2,hv2,-⟩:=own_sl ho2
  obtain ⟨no,hno⟩:∃ no,no=s1.ops.length:=⟨_,rfl⟩
  obtain ⟨nd2,hnd2⟩:∃ nd2,nd2=M.N:=⟨_,rfl⟩
  rw [← hno] at hv1
  rw [← hnd2] at hv2
  subst hv1 hv2
  unfold stV
  obtain ⟨W7,hW7⟩:∃ W7,W7=w6.alloc (.cells #[.int .u8 s1.life,.int .u32 s1.pc,.int .u32 s1.sp,.slice o1 no o2,.slice d1 nd2 d2,.int .u32 s1.value,.int .u8 s1.fault] 51):=⟨_,rfl⟩
  have hb7:Below w6.heap.size w6 W7:=by rw [hW7];exact Bel.new _ _
  have hr7:W7.heap[w6.heap.size]?=some (.cells #[.int .u8 s1.life,.int .u32 s1.pc,.int .u32 s1.sp,.slice o1 no o2,.slice d1 nd2 d2,.int .u32 s1.value,.int .u8 s1.fault] 51 (0,0)):=by rw [hW7];exact heap_alloc_new _ _
  have HO:=Lib.hid (And.intro ho1 ho2)
  have HNo:=Lib.hid (And.intro hno hnd2)
  have HB6:=Lib.hid hb6
  have HB7:=Lib.hid hb7
  have HR7:=Lib.hid hr7
  have hB47:=Bel.tr HB5.out (Bel.tr hb6 hb7)
  have hrd7:Rdy w0 W7 b K s1 vo1 R1 M vt1 _ gr mb m:=⟨HRd1.out.st,HRd1.out.x.below hB47,HRd1.out.home.fr (Fr.of hB47 _),HRd1.out.wf,HRd1.out.fit,HRd1.out.rn,HRd1.out.en⟩
  have HRd7:=Lib.hid hrd7
  have hrs2:=RepsS.home hrd7.home (HLa.out.below HBw0.out)
  have HRS2:=Lib.hid hrs2
  have HB47:=Lib.hid hB47
  clear ho1 ho2 hno hnd2 hb6 hb7 hr7 hB47 hrd7 hrs2
  go_wp2_with fail
  rw [← hW7]
  clear hW7
  refine (HF2.out W7).mono ?_
  rintro e w7 ⟨rfl,rfl⟩
  go_wp2_with fail
  by_cases hfit2:repsFit later=true
  ·have HGo2:=Lib.hid (go_any HRd7.out hp2 HRS2.out hfit2)
   refine HGo2.out.mono ?_
   rintro e w8 ⟨v,vo2,R2,vt2,rfl,hres2,hrd2,hon2,hfr2⟩
   clear HGo2
   obtain ⟨ve2,va2,rfl,hev2,hva2,hvo2⟩:=id hres2
   obtain ⟨p3,n3,c3,hve2⟩:∃ a n c,ve2=.slice a n c:=by obtain ⟨xs,-,ho,-⟩:=hev2;obtain ⟨a,c,h,-⟩:=own_sl ho;exact ⟨a,_,c,h⟩
   obtain ⟨p4,n4,c4,hva2'⟩:∃ a n c,va2=.slice a n c:=by obtain ⟨a,c,h,-⟩:=own_sl hva2;exact ⟨a,_,c,h⟩
   subst hve2 hva2'
   have hfl1:=HRd1.out.x.flt
   have hq17:¬ allF b vo1 R1 M vt1 w4.heap.size:=fun e=>by have:=hfl1 _ e;omega
   have hs46:w4.heap.size<w6.heap.size:=Nat.lt_of_lt_of_le (Array.getElem?_eq_some_iff.1 HR5.out).1 HB6.out.size
   have hq19:¬ allF b vo1 R1 M vt1 w6.heap.size:=fun e=>by have:=hfl1 _ e;omega
   have hr17:=hfr2.row ((HB7.out.block _ hs46).trans ((HB6.out.block _ (Array.getElem?_eq_some_iff.1 HR5.out).1).trans HR5.out)) hq17
   have hr19:=hfr2.row HR7.out hq19
   have hnew:∀ k,w4.heap.size<k→¬ allF b vo1 R1 M vt1 k:=fun k hk e=>by have:=hfl1 _ e;omega
   have hsz5:=(Array.getElem?_eq_some_iff.1 HR5.out).1
   have hstr:StR w8 (.slice o1 no o2) (.slice d1 nd2 d2) s1:=by
    have e1:=own_fr (own_base (own_below HO.out.1 HB7.out)) hfr2 (fun g e=>hnew g (by have:=(HO.out.1.lt g e).1;omega))
    have e2:=own_fr (own_base (own_below HO.out.2 HB7.out)) hfr2 (fun g e=>hnew g (by have:=(HO.out.2.lt g e).1;omega))
    refine ⟨own_reads e1,?_,HRd1.out.x.m.mem.lt⟩
    have e3:=own_reads e2
    rw [← HRd1.out.x.m.mem.len] at e3
    exact e3
   have hva1:=own_fr (own_below HVa1.out.1 HB47.out) hfr2 HVa1.out.2
   have hvo1:∀ g,(Value.slice p2 n2 c2).ownBlock=some g→¬ allF b vo2 R2 M vt2 g:=fun g e=>hfr2.notF ((own_below HVa1.out.1 HB47.out).lt g e).2 (HVa1.out.2 g e)
   have HBw8:=Lib.hid (Bel.tr HBw0.out hrd2.home.b)
   have HR17:=Lib.hid hr17
   have HR19:=Lib.hid hr19
   have HStr:=Lib.hid hstr
   have HVA:=Lib.hid (And.intro hva1 hvo1)
   have HRes2:=Lib.hid hres2
   have HRd2:=Lib.hid hrd2
   clear hfl1 hq17 hs46 hq19 hnew hsz5 hstr hva1 hvo1 hev2 hva2 hvo2 hres2 hrd2 hon2 hfr2 hr17 hr19
   obtain ⟨r2,hr2⟩:∃ r2,r2=resOf later.length (goM (moOf m) gr f2 later s1):=⟨_,rfl⟩
   rw [← hr2] at HRes2 ⊢
   unfold resRow
   by_cases hl1:s1.life=1
   ·obtain ⟨hen,hwait⟩:=ended_wait (m:=moOf m) (gr:=gr) (reps:=reps) (s:=s0) (f1:=f1) (f2:=f2) HG1.out.1 (by rw [← HG1.out.2.2];exact hl1) reps.length
    have hmore:=ended_more (m:=moOf m) (gr:=gr) (later:=later) (f2:=f2) hl1
    rw [← HG1.out.2.1,← HG1.out.2.2] at hwait
    rw [← HG1.out.2.1] at hen
    rw [← hr2] at hmore
    have HMore:=Lib.hid hmore
    clear hmore
    rcases hen with hen|hen
    ·clear hwait hr2
     have t0:w8.cell? ⟨w4.heap.size,0,none⟩=some (.int .u8 3):=by
      have h:=cell_of_row w8 w4.heap.size 0 _ _ _ HR17.out
      rw [hen] at h
      exact h
     have l17:=(Array.getElem?_eq_some_iff.1 HR17.out).1
     rcases Nat.lt_or_ge 0 r2.used with hu|hu
     ·have hu':(0:Int)<(r2.used:Int):=by omega
      go_wp2_with fail
      go_ret
      exact ⟨rfl,HPsi.out _ (Bel.tr HBw8.out (Bel.new _ _))⟩
     ·have hu':¬ (0:Int)<(r2.used:Int):=by omega
      rcases HMore.out with h|⟨h,hf0⟩|h
      ·omega
      ·rw [h]
       have HF2z:=Lib.hid (HF2.out)
       rw [hf0] at HF2z
       go_wp2_with fail
       refine (HF2z.out _).mono ?_
       rintro e w9 ⟨rfl,rfl⟩
       go_wp2_with fail
       go_ret
       exact ⟨rfl,HPsi.out _ (Bel.tr HBw8.out (Bel.new _ _))⟩
      ·rw [h]
       go_wp2_with fail
       go_ret
       exact ⟨rfl,HPsi.out _ (Bel.tr HBw8.out (Bel.new _ _))⟩
    ·by_cases hn0:nl=0
     ·have hlz:later=[]:=List.eq_nil_of_length_eq_zero (by rw [← HNL.out];exact hn0)
      obtain ⟨hw1,hw2⟩:=hwait hen
      have hr2e:r2=⟨4,r1.at_,0,0,0,0,[],r1.ask⟩:=by rw [hr2,hlz];exact hw1
      have hst2:(goM (moOf m) gr f2 later s1).st=s1:=by rw [hlz];exact hw2
      rw [hst2] at HRd2
      clear hr2 hw1 hw2 hst2 hlz hwait HMore hl1
      subst hr2e
      subst hn0
      dsimp only
      have t0:w8.cell? ⟨w4.heap.size,0,none⟩=some (.int .u8 4):=by
       have h:=cell_of_row w8 w4.heap.size 0 _ _ _ HR17.out
       rw [hen] at h
       exact h
      have l17:=(Array.getElem?_eq_some_iff.1 HR17.out).1
      have t1:=cell_of_row w8 w4.heap.size 1 _ _ _ HR17.out
      have t7:=cell_of_row w8 w4.heap.size 7 _ _ _ HR17.out
      have t8:=cell_of_row w8 w4.heap.size 8 _ _ _ HR17.out
      have t9:=cell_of_row w8 w4.heap.size 9 _ _ _ HR17.out
      have t10:=cell_of_row w8 w4.heap.size 10 _ _ _ HR17.out
      go_wp2_with fail
      clear t0 t1 t7 t8 t9 t10 l17
      obtain ⟨W10,hW10⟩:∃ W,W=(w8.alloc (.cells #[.int .u8 4,.int .u32 r1.at_,.int .u32 0,.int .u8 0,.int .i64 0,.int .i64 0,.slice p3 n3 c3,.int .u32 r1.ask.at_,.int .u32 r1.ask.num,.slice p4 n4 c4,.int .u32 r1.ask.val] 44)).alloc (.cells #[.int .u8 4,.int .u32 r1.at_,.int .u32 0,.int .u8 0,.int .i64 0,.int .i64 0,.slice none 0 0,.int .u32 r1.ask.at_,.int .u32 r1.ask.num,.slice p2 n2 c2,.int .u32 r1.ask.val] 44):=⟨_,rfl⟩
      have hb10:Below w8.heap.size w8 W10:=by rw [hW10];exact Bel.tr (Bel.new _ _) (Bel.new _ _)
      have hr20:W10.heap[w8.heap.size]?=some (.cells #[.int .u8 4,.int .u32 r1.at_,.int .u32 0,.int .u8 0,.int .i64 0,.int .i64 0,.slice p3 n3 c3,.int .u32 r1.ask.at_,.int .u32 r1.ask.num,.slice p4 n4 c4,.int .u32 r1.ask.val] 44 (0,0)):=by rw [hW10,heap_alloc_old _ _ (by simp)];exact heap_alloc_new _ _
      have hr22:W10.heap[w8.heap.size+1]?=some (.cells #[.int .u8 4,.int .u32 r1.at_,.int .u32 0,.int .u8 0,.int .i64 0,.int .i64 0,.slice none 0 0,.int .u32 r1.ask.at_,.int .u32 r1.ask.num,.slice p2 n2 c2,.int .u32 r1.ask.val] 44 (0,0)):=by
       rw [hW10]
       have h2:=heap_alloc_new (w8.alloc (.cells #[.int .u8 4,.int .u32 r1.at_,.int .u32 0,.int .u8 0,.int .i64 0,.int .i64 0,.slice p3 n3 c3,.int .u32 r1.ask.at_,.int .u32 r1.ask.num,.slice p4 n4 c4,.int .u32 r1.ask.val] 44)) (.cells #[.int .u8 4,.int .u32 r1.at_,.int .u32 0,.int .u8 0,.int .i64 0,.int .i64 0,.slice none 0 0,.int .u32 r1.ask.at_,.int .u32 r1.ask.num,.slice p2 n2 c2,.int .u32 r1.ask.val] 44)
       rw [World.size_alloc] at h2
       exact h2
      rw [← hW10]
      clear hW10
      have hr19:=(hb10.block _ (Array.getElem?_eq_some_iff.1 HR19.out).1).trans HR19.out
      have hr17:=(hb10.block _ (Array.getElem?_eq_some_iff.1 HR17.out).1).trans HR17.out
      have HS:=Lib.hid (fun W (hW:Below W10.heap.size W10 W)=>(by
       have a20:=(hW.block _ (Array.getElem?_eq_some_iff.1 hr20).1).trans hr20
       have a22:=(hW.block _ (Array.getElem?_eq_some_iff.1 hr22).1).trans hr22
       have a19:=(hW.block _ (Array.getElem?_eq_some_iff.1 hr19).1).trans hr19
       have a17:=(hW.block _ (Array.getElem?_eq_some_iff.1 hr17).1).trans hr17
       exact ⟨⟨⟨⟨cell_of_row W w8.heap.size 0 _ _ _ a20,⟨cell_of_row W w8.heap.size 1 _ _ _ a20,cell_of_row W w8.heap.size 2 _ _ _ a20⟩⟩,⟨⟨cell_of_row W w8.heap.size 3 _ _ _ a20,cell_of_row W w8.heap.size 4 _ _ _ a20⟩,⟨cell_of_row W w8.heap.size 5 _ _ _ a20,cell_of_row W w8.heap.size 6 _ _ _ a20⟩⟩⟩,⟨⟨cell_of_row W w8.heap.size 7 _ _ _ a20,⟨cell_of_row W w8.heap.size 8 _ _ _ a20,cell_of_row W w8.heap.size 9 _ _ _ a20⟩⟩,⟨⟨cell_of_row W w8.heap.size 10 _ _ _ a20,cell_of_row W (w8.heap.size+1) 0 _ _ _ a22⟩,⟨cell_of_row W (w8.heap.size+1) 1 _ _ _ a22,cell_of_row W (w8.heap.size+1) 2 _ _ _ a22⟩⟩⟩⟩,⟨⟨⟨cell_of_row W (w8.heap.size+1) 3 _ _ _ a22,⟨cell_of_row W (w8.heap.size+1) 4 _ _ _ a22,cell_of_row W (w8.heap.size+1) 5 _ _ _ a22⟩⟩,⟨⟨cell_of_row W (w8.heap.size+1) 6 _ _ _ a22,cell_of_row W (w8.heap.size+1) 7 _ _ _ a22⟩,⟨cell_of_row W (w8.heap.size+1) 8 _ _ _ a22,cell_of_row W (w8.heap.size+1) 9 _ _ _ a22⟩⟩⟩,⟨⟨⟨cell_of_row W (w8.heap.size+1) 10 _ _ _ a22,cell_of_row W w6.heap.size 0 _ _ _ a19⟩,⟨cell_of_row W w6.heap.size 1 _ _ _ a19,cell_of_row W w6.heap.size 2 _ _ _ a19⟩⟩,⟨⟨cell_of_row W w6.heap.size 3 _ _ _ a19,cell_of_row W w6.heap.size 4 _ _ _ a19⟩,⟨cell_of_row W w6.heap.size 5 _ _ _ a19,cell_of_row W w6.heap.size 6 _ _ _ a19⟩⟩⟩⟩⟩:((((W.cell? ⟨w8.heap.size,0,none⟩=some (.int .u8 4)∧(W.cell? ⟨w8.heap.size,1,none⟩=some (.int .u32 r1.at_)∧W.cell? ⟨w8.heap.size,2,none⟩=some (.int .u32 0)))∧((W.cell? ⟨w8.heap.size,3,none⟩=some (.int .u8 0)∧W.cell? ⟨w8.heap.size,4,none⟩=some (.int .i64 0))∧(W.cell? ⟨w8.heap.size,5,none⟩=some (.int .i64 0)∧W.cell? ⟨w8.heap.size,6,none⟩=some (.slice p3 n3 c3))))∧((W.cell? ⟨w8.heap.size,7,none⟩=some (.int .u32 r1.ask.at_)∧(W.cell? ⟨w8.heap.size,8,none⟩=some (.int .u32 r1.ask.num)∧W.cell? ⟨w8.heap.size,9,none⟩=some (.slice p4 n4 c4)))∧((W.cell? ⟨w8.heap.size,10,none⟩=some (.int .u32 r1.ask.val)∧W.cell? ⟨(w8.heap.size+1),0,none⟩=some (.int .u8 4))∧(W.cell? ⟨(w8.heap.size+1),1,none⟩=some (.int .u32 r1.at_)∧W.cell? ⟨(w8.heap.size+1),2,none⟩=some (.int .u32 0)))))∧(((W.cell? ⟨(w8.heap.size+1),3,none⟩=some (.int .u8 0)∧(W.cell? ⟨(w8.heap.size+1),4,none⟩=some (.int .i64 0)∧W.cell? ⟨(w8.heap.size+1),5,none⟩=some (.int .i64 0)))∧((W.cell? ⟨(w8.heap.size+1),6,none⟩=some (.slice none 0 0)∧W.cell? ⟨(w8.heap.size+1),7,none⟩=some (.int .u32 r1.ask.at_))∧(W.cell? ⟨(w8.heap.size+1),8,none⟩=some (.int .u32 r1.ask.num)∧W.cell? ⟨(w8.heap.size+1),9,none⟩=some (.slice p2 n2 c2))))∧(((W.cell? ⟨(w8.heap.size+1),10,none⟩=some (.int .u32 r1.ask.val)∧W.cell? ⟨w6.heap.size,0,none⟩=some (.int .u8 s1.life))∧(W.cell? ⟨w6.heap.size,1,none⟩=some (.int .u32 s1.pc)∧W.cell? ⟨w6.heap.size,2,none⟩=some (.int .u32 s1.sp)))∧((W.cell? ⟨w6.heap.size,3,none⟩=some (.slice o1 no o2)∧W.cell? ⟨w6.heap.size,4,none⟩=some (.slice d1 nd2 d2))∧(W.cell? ⟨w6.heap.size,5,none⟩=some (.int .u32 s1.value)∧W.cell? ⟨w6.heap.size,6,none⟩=some (.int .u8 s1.fault))))))))
      have HB10:=Lib.hid hb10
      have HSR:=Lib.hid (fun W (hW:Below w8.heap.size w8 W)=>(show Calls Tryz.prog 12 #[.agg #[.int .u8 4,.int .u32 r1.at_,.int .u32 0,.int .u8 0,.int .i64 0,.int .i64 0,.slice p3 n3 c3,.int .u32 r1.ask.at_,.int .u32 r1.ask.num,.slice p4 n4 c4,.int .u32 r1.ask.val],.agg #[.int .u8 4,.int .u32 r1.at_,.int .u32 0,.int .u8 0,.int .i64 0,.int .i64 0,.slice none 0 0,.int .u32 r1.ask.at_,.int .u32 r1.ask.num,.slice p2 n2 c2,.int .u32 r1.ask.val]] W (fun e w'=>e=.returned (.bool true)∧Below W.heap.size W w') from by
       have hA:=HRes2.out
       exact sameResult_yes (G:=allF b vo2 R2 M vt2) (hA.fr (Fr.of hW _)) (resAt_wait (own_below HVA.out.1 hW) HVA.out.2 r1.at_)))
      clear hb10 hr20 hr22 hr19 hr17
      have hH0:=HS.out W10.drew (Below.refl _ _).drew
      refine wp_region_held_drew (S:=fun W=>((((W.cell? ⟨w8.heap.size,0,none⟩=some (.int .u8 4)∧(W.cell? ⟨w8.heap.size,1,none⟩=some (.int .u32 r1.at_)∧W.cell? ⟨w8.heap.size,2,none⟩=some (.int .u32 0)))∧((W.cell? ⟨w8.heap.size,3,none⟩=some (.int .u8 0)∧W.cell? ⟨w8.heap.size,4,none⟩=some (.int .i64 0))∧(W.cell? ⟨w8.heap.size,5,none⟩=some (.int .i64 0)∧W.cell? ⟨w8.heap.size,6,none⟩=some (.slice p3 n3 c3))))∧((W.cell? ⟨w8.heap.size,7,none⟩=some (.int .u32 r1.ask.at_)∧(W.cell? ⟨w8.heap.size,8,none⟩=some (.int .u32 r1.ask.num)∧W.cell? ⟨w8.heap.size,9,none⟩=some (.slice p4 n4 c4)))∧((W.cell? ⟨w8.heap.size,10,none⟩=some (.int .u32 r1.ask.val)∧W.cell? ⟨(w8.heap.size+1),0,none⟩=some (.int .u8 4))∧(W.cell? ⟨(w8.heap.size+1),1,none⟩=some (.int .u32 r1.at_)∧W.cell? ⟨(w8.heap.size+1),2,none⟩=some (.int .u32 0)))))∧(((W.cell? ⟨(w8.heap.size+1),3,none⟩=some (.int .u8 0)∧(W.cell? ⟨(w8.heap.size+1),4,none⟩=some (.int .i64 0)∧W.cell? ⟨(w8.heap.size+1),5,none⟩=some (.int .i64 0)))∧((W.cell? ⟨(w8.heap.size+1),6,none⟩=some (.slice none 0 0)∧W.cell? ⟨(w8.heap.size+1),7,none⟩=some (.int .u32 r1.ask.at_))∧(W.cell? ⟨(w8.heap.size+1),8,none⟩=some (.int .u32 r1.ask.num)∧W.cell? ⟨(w8.heap.size+1),9,none⟩=some (.slice p2 n2 c2))))∧(((W.cell? ⟨(w8.heap.size+1),10,none⟩=some (.int .u32 r1.ask.val)∧W.cell? ⟨w6.heap.size,0,none⟩=some (.int .u8 s1.life))∧(W.cell? ⟨w6.heap.size,1,none⟩=some (.int .u32 s1.pc)∧W.cell? ⟨w6.heap.size,2,none⟩=some (.int .u32 s1.sp)))∧((W.cell? ⟨w6.heap.size,3,none⟩=some (.slice o1 no o2)∧W.cell? ⟨w6.heap.size,4,none⟩=some (.slice d1 nd2 d2))∧(W.cell? ⟨w6.heap.size,5,none⟩=some (.int .u32 s1.value)∧W.cell? ⟨w6.heap.size,6,none⟩=some (.int .u8 s1.fault))))))) hmx hH0 (fun hHeld=>?_)
      refine tk 0 hHeld ?_
      refine tk 1 hHeld ?_
      refine rd 2 _ fun K hK=>?_
      go_simp
      refine (HSR.out W10.drew HB10.out.drew).mono ?_
      rintro e w11 ⟨rfl,hb11⟩
      have hB11:Below W10.heap.size W10 w11:=Bel.tr (Below.refl _ _).drew hb11
      have hH1:=HS.out w11 hB11
      refine hK.out _ _ hH1 (fun _=>?_)
      clear hK K
      try simp only [Act.put,aT,aZ,aS]
      refine tk 3 hH1 ?_
      refine tk 4 hH1 ?_
      refine tk 5 hH1 ?_
      refine rd 6 _ fun K hK=>?_
      rw [if_pos (by rfl)]
      go_simp
      have hBd11:=Bel.tr HB10.out hB11
      refine (mstate_any (HRd2.out.x.below hBd11).m HRd2.out.st.md hops1).mono ?_
      rintro e w12 ⟨v3,v4,rfl,ho3,ho4,hb12⟩
      have HO3:=Lib.hid (And.intro ho3 ho4)
      obtain ⟨o3,o4,hv3,-⟩:=own_sl ho3
      obtain ⟨d3,d4,hv4,-⟩:=own_sl ho4
      rw [← HNo.out.1] at hv3
      rw [← HNo.out.2] at hv4
      subst hv3 hv4
      unfold stV
      have hB12:=Bel.tr hB11 hb12
      have hH2:=HS.out w12 hB12
      refine hK.out _ _ hH2 (fun _=>?_)
      clear hK K
      try simp only [Act.put,aT,aZ,aS]
      refine rd 7 _ fun K hK=>?_
      rw [if_pos (by rfl)]
      go_simp
      have HSS:=Lib.hid (show Calls Tryz.prog 13 #[.agg #[.int .u8 s1.life,.int .u32 s1.pc,.int .u32 s1.sp,.slice o1 no o2,.slice d1 nd2 d2,.int .u32 s1.value,.int .u8 s1.fault],.agg #[.int .u8 s1.life,.int .u32 s1.pc,.int .u32 s1.sp,.slice o3 no o4,.slice d3 nd2 d4,.int .u32 s1.value,.int .u8 s1.fault]] w12 (fun e w'=>e=.returned (.bool true)∧Below w12.heap.size w12 w') from sameState_r (s:=s1) (HStr.out.below (Bel.tr HB10.out hB12)) ⟨own_reads HO3.out.1,(by have h:=own_reads HO3.out.2;rw [← HRd2.out.x.m.mem.len] at h;exact h),HRd2.out.x.m.mem.lt⟩)
      refine HSS.out.mono ?_
      rintro e w13 ⟨rfl,hb13⟩
      have hB13:=Bel.tr hB12 hb13
      have hH3:=HS.out w13 hB13
      refine hK.out _ _ hH3 (fun _=>?_)
      clear hK K
      try simp only [Act.put,aT,aZ,aS]
      refine tk 8 hH3 ?_
      refine tk 9 hH3 ?_
      refine wpAnyH_done (by kernel_rfl) ?_ _
      have HB13:=Lib.hid (Bel.tr HBw8.out (Bel.tr HB10.out hB13))
      clear hHeld hH0 hH1 hH2 hH3 hB11 hB12 hB13 hb11 hb12 hb13 hBd11 ho3 ho4
      go_wp2_with fail
      go_ret
      exact ⟨rfl,HPsi.out _ HB13.out⟩
     ·have hn0':¬ ((nl:Nat):Int)=0:=by omega
      clear hwait hr2
      have t0:w8.cell? ⟨w4.heap.size,0,none⟩=some (.int .u8 4):=by
       have h:=cell_of_row w8 w4.heap.size 0 _ _ _ HR17.out
       rw [hen] at h
       exact h
      have l17:=(Array.getElem?_eq_some_iff.1 HR17.out).1
      rcases Nat.lt_or_ge 0 r2.used with hu|hu
      ·have hu':(0:Int)<(r2.used:Int):=by omega
       go_wp2_with fail
       go_ret
       exact ⟨rfl,HPsi.out _ (Bel.tr HBw8.out (Bel.new _ _))⟩
      ·have hu':¬ (0:Int)<(r2.used:Int):=by omega
       rcases HMore.out with h|⟨h,hf0⟩|h
       ·omega
       ·rw [h]
        have HF2z:=Lib.hid (HF2.out)
        rw [hf0] at HF2z
        go_wp2_with fail
        refine (HF2z.out _).mono ?_
        rintro e w9 ⟨rfl,rfl⟩
        go_wp2_with fail
        go_ret
        exact ⟨rfl,HPsi.out _ (Bel.tr HBw8.out (Bel.new _ _))⟩
       ·rw [h]
        go_wp2_with fail
        go_ret
        exact ⟨rfl,HPsi.out _ (Bel.tr HBw8.out (Bel.new _ _))⟩
   ·obtain ⟨hen,hat,hr2e,hst2⟩:=ended_rest (m:=moOf m) (gr:=gr) (later:=later) (f2:=f2) (s1:=s1) (by omega) HG1.out.2.2.symm reps.length
    rw [← HG1.out.2.1] at hen hat hr2e
    rw [← hr2] at hr2e
    clear hr2
    subst hr2e
    dsimp only
    rw [hst2] at HRd2
    have HAt:=Lib.hid hat
    clear hat hst2
    rcases hen with hen|hen
    ·have HEn:=Lib.hid hen
     have t0:w8.cell? ⟨w4.heap.size,0,none⟩=some (.int .u8 1):=by
      have h:=cell_of_row w8 w4.heap.size 0 _ _ _ HR17.out
      rw [hen] at h
      exact h
     have t1:=cell_of_row w8 w4.heap.size 1 _ _ _ HR17.out
     have t2:=cell_of_row w8 w4.heap.size 2 _ _ _ HR17.out
     have t3:=cell_of_row w8 w4.heap.size 3 _ _ _ HR17.out
     have l17:=(Array.getElem?_eq_some_iff.1 HR17.out).1
     go_wp2_with fail
     clear t0 t1 t2 t3 l17
     obtain ⟨W10,hW10⟩:∃ W,W=(w8.alloc (.cells #[.int .u8 1,.int .u32 r1.at_,.int .u32 r1.value,.int .u8 r1.fault,.int .i64 0,.int .i64 0,.slice p3 n3 c3,.int .u32 askZ.at_,.int .u32 askZ.num,.slice p4 n4 c4,.int .u32 askZ.val] 44)).alloc (.cells #[.int .u8 1,.int .u32 r1.at_,.int .u32 r1.value,.int .u8 r1.fault,.int .i64 0,.int .i64 0,.slice none 0 0,.int .u32 0,.int .u32 0,.slice none 0 0,.int .u32 0] 44):=⟨_,rfl⟩
     have hb10:Below w8.heap.size w8 W10:=by rw [hW10];exact Bel.tr (Bel.new _ _) (Bel.new _ _)
     have hr20:W10.heap[w8.heap.size]?=some (.cells #[.int .u8 1,.int .u32 r1.at_,.int .u32 r1.value,.int .u8 r1.fault,.int .i64 0,.int .i64 0,.slice p3 n3 c3,.int .u32 askZ.at_,.int .u32 askZ.num,.slice p4 n4 c4,.int .u32 askZ.val] 44 (0,0)):=by rw [hW10,heap_alloc_old _ _ (by simp)];exact heap_alloc_new _ _
     have hr22:W10.heap[w8.heap.size+1]?=some (.cells #[.int .u8 1,.int .u32 r1.at_,.int .u32 r1.value,.int .u8 r1.fault,.int .i64 0,.int .i64 0,.slice none 0 0,.int .u32 0,.int .u32 0,.slice none 0 0,.int .u32 0] 44 (0,0)):=by
      rw [hW10]
      have h2:=heap_alloc_new (w8.alloc (.cells #[.int .u8 1,.int .u32 r1.at_,.int .u32 r1.value,.int .u8 r1.fault,.int .i64 0,.int .i64 0,.slice p3 n3 c3,.int .u32 askZ.at_,.int .u32 askZ.num,.slice p4 n4 c4,.int .u32 askZ.val] 44)) (.cells #[.int .u8 1,.int .u32 r1.at_,.int .u32 r1.value,.int .u8 r1.fault,.int .i64 0,.int .i64 0,.slice none 0 0,.int .u32 0,.int .u32 0,.slice none 0 0,.int .u32 0] 44)
      rw [World.size_alloc] at h2
      exact h2
     rw [← hW10]
     clear hW10
     have hr19:=(hb10.block _ (Array.getElem?_eq_some_iff.1 HR19.out).1).trans HR19.out
     have hr17:=(hb10.block _ (Array.getElem?_eq_some_iff.1 HR17.out).1).trans HR17.out
     have HS:=Lib.hid (fun W (hW:Below W10.heap.size W10 W)=>(by
      have a20:=(hW.block _ (Array.getElem?_eq_some_iff.1 hr20).1).trans hr20
      have a22:=(hW.block _ (Array.getElem?_eq_some_iff.1 hr22).1).trans hr22
      have a19:=(hW.block _ (Array.getElem?_eq_some_iff.1 hr19).1).trans hr19
      have a17:=(hW.block _ (Array.getElem?_eq_some_iff.1 hr17).1).trans hr17
      exact ⟨⟨⟨⟨cell_of_row W w8.heap.size 0 _ _ _ a20,⟨cell_of_row W w8.heap.size 1 _ _ _ a20,cell_of_row W w8.heap.size 2 _ _ _ a20⟩⟩,⟨⟨cell_of_row W w8.heap.size 3 _ _ _ a20,cell_of_row W w8.heap.size 4 _ _ _ a20⟩,⟨cell_of_row W w8.heap.size 5 _ _ _ a20,cell_of_row W w8.heap.size 6 _ _ _ a20⟩⟩⟩,⟨⟨⟨cell_of_row W w8.heap.size 7 _ _ _ a20,cell_of_row W w8.heap.size 8 _ _ _ a20⟩,⟨cell_of_row W w8.heap.size 9 _ _ _ a20,cell_of_row W w8.heap.size 10 _ _ _ a20⟩⟩,⟨⟨cell_of_row W (w8.heap.size+1) 0 _ _ _ a22,cell_of_row W (w8.heap.size+1) 1 _ _ _ a22⟩,⟨cell_of_row W (w8.heap.size+1) 2 _ _ _ a22,cell_of_row W (w8.heap.size+1) 3 _ _ _ a22⟩⟩⟩⟩,⟨⟨⟨cell_of_row W (w8.heap.size+1) 4 _ _ _ a22,⟨cell_of_row W (w8.heap.size+1) 5 _ _ _ a22,cell_of_row W (w8.heap.size+1) 6 _ _ _ a22⟩⟩,⟨⟨cell_of_row W (w8.heap.size+1) 7 _ _ _ a22,cell_of_row W (w8.heap.size+1) 8 _ _ _ a22⟩,⟨cell_of_row W (w8.heap.size+1) 9 _ _ _ a22,cell_of_row W (w8.heap.size+1) 10 _ _ _ a22⟩⟩⟩,⟨⟨⟨cell_of_row W w6.heap.size 0 _ _ _ a19,cell_of_row W w6.heap.size 1 _ _ _ a19⟩,⟨cell_of_row W w6.heap.size 2 _ _ _ a19,cell_of_row W w6.heap.size 3 _ _ _ a19⟩⟩,⟨⟨cell_of_row W w6.heap.size 4 _ _ _ a19,cell_of_row W w6.heap.size 5 _ _ _ a19⟩,⟨cell_of_row W w6.heap.size 6 _ _ _ a19,(by have h:=cell_of_row W w4.heap.size 1 _ _ _ a17;rw [HAt.out];exact h)⟩⟩⟩⟩⟩:((((W.cell? ⟨w8.heap.size,0,none⟩=some (.int .u8 1)∧(W.cell? ⟨w8.heap.size,1,none⟩=some (.int .u32 r1.at_)∧W.cell? ⟨w8.heap.size,2,none⟩=some (.int .u32 r1.value)))∧((W.cell? ⟨w8.heap.size,3,none⟩=some (.int .u8 r1.fault)∧W.cell? ⟨w8.heap.size,4,none⟩=some (.int .i64 0))∧(W.cell? ⟨w8.heap.size,5,none⟩=some (.int .i64 0)∧W.cell? ⟨w8.heap.size,6,none⟩=some (.slice p3 n3 c3))))∧(((W.cell? ⟨w8.heap.size,7,none⟩=some (.int .u32 askZ.at_)∧W.cell? ⟨w8.heap.size,8,none⟩=some (.int .u32 askZ.num))∧(W.cell? ⟨w8.heap.size,9,none⟩=some (.slice p4 n4 c4)∧W.cell? ⟨w8.heap.size,10,none⟩=some (.int .u32 askZ.val)))∧((W.cell? ⟨(w8.heap.size+1),0,none⟩=some (.int .u8 1)∧W.cell? ⟨(w8.heap.size+1),1,none⟩=some (.int .u32 r1.at_))∧(W.cell? ⟨(w8.heap.size+1),2,none⟩=some (.int .u32 r1.value)∧W.cell? ⟨(w8.heap.size+1),3,none⟩=some (.int .u8 r1.fault)))))∧(((W.cell? ⟨(w8.heap.size+1),4,none⟩=some (.int .i64 0)∧(W.cell? ⟨(w8.heap.size+1),5,none⟩=some (.int .i64 0)∧W.cell? ⟨(w8.heap.size+1),6,none⟩=some (.slice none 0 0)))∧((W.cell? ⟨(w8.heap.size+1),7,none⟩=some (.int .u32 0)∧W.cell? ⟨(w8.heap.size+1),8,none⟩=some (.int .u32 0))∧(W.cell? ⟨(w8.heap.size+1),9,none⟩=some (.slice none 0 0)∧W.cell? ⟨(w8.heap.size+1),10,none⟩=some (.int .u32 0))))∧(((W.cell? ⟨w6.heap.size,0,none⟩=some (.int .u8 s1.life)∧W.cell? ⟨w6.heap.size,1,none⟩=some (.int .u32 s1.pc))∧(W.cell? ⟨w6.heap.size,2,none⟩=some (.int .u32 s1.sp)∧W.cell? ⟨w6.heap.size,3,none⟩=some (.slice o1 no o2)))∧((W.cell? ⟨w6.heap.size,4,none⟩=some (.slice d1 nd2 d2)∧W.cell? ⟨w6.heap.size,5,none⟩=some (.int .u32 s1.value))∧(W.cell? ⟨w6.heap.size,6,none⟩=some (.int .u8 s1.fault)∧W.cell? ⟨w4.heap.size,1,none⟩=some (.int .u32 s1.pc))))))))
     have HB10:=Lib.hid hb10
     have HSR:=Lib.hid (fun W (hW:Below w8.heap.size w8 W)=>(show Calls Tryz.prog 12 #[.agg #[.int .u8 1,.int .u32 r1.at_,.int .u32 r1.value,.int .u8 r1.fault,.int .i64 0,.int .i64 0,.slice p3 n3 c3,.int .u32 askZ.at_,.int .u32 askZ.num,.slice p4 n4 c4,.int .u32 askZ.val],.agg #[.int .u8 1,.int .u32 r1.at_,.int .u32 r1.value,.int .u8 r1.fault,.int .i64 0,.int .i64 0,.slice none 0 0,.int .u32 0,.int .u32 0,.slice none 0 0,.int .u32 0]] W (fun e w'=>e=.returned (.bool true)∧Below W.heap.size W w') from by
      have hA:=HRes2.out
      rw [HEn.out] at hA
      exact sameResult_yes (G:=fun _=>False) (hA.fr (Fr.of hW _)) (resAt_rest W (fun _=>False) 1 r1.at_ r1.value r1.fault)))
     clear hb10 hr20 hr22 hr19 hr17
     have hH0:=HS.out W10.drew (Below.refl _ _).drew
     refine wp_region_held_drew (S:=fun W=>((((W.cell? ⟨w8.heap.size,0,none⟩=some (.int .u8 1)∧(W.cell? ⟨w8.heap.size,1,none⟩=some (.int .u32 r1.at_)∧W.cell? ⟨w8.heap.size,2,none⟩=some (.int .u32 r1.value)))∧((W.cell? ⟨w8.heap.size,3,none⟩=some (.int .u8 r1.fault)∧W.cell? ⟨w8.heap.size,4,none⟩=some (.int .i64 0))∧(W.cell? ⟨w8.heap.size,5,none⟩=some (.int .i64 0)∧W.cell? ⟨w8.heap.size,6,none⟩=some (.slice p3 n3 c3))))∧(((W.cell? ⟨w8.heap.size,7,none⟩=some (.int .u32 askZ.at_)∧W.cell? ⟨w8.heap.size,8,none⟩=some (.int .u32 askZ.num))∧(W.cell? ⟨w8.heap.size,9,none⟩=some (.slice p4 n4 c4)∧W.cell? ⟨w8.heap.size,10,none⟩=some (.int .u32 askZ.val)))∧((W.cell? ⟨(w8.heap.size+1),0,none⟩=some (.int .u8 1)∧W.cell? ⟨(w8.heap.size+1),1,none⟩=some (.int .u32 r1.at_))∧(W.cell? ⟨(w8.heap.size+1),2,none⟩=some (.int .u32 r1.value)∧W.cell? ⟨(w8.heap.size+1),3,none⟩=some (.int .u8 r1.fault)))))∧(((W.cell? ⟨(w8.heap.size+1),4,none⟩=some (.int .i64 0)∧(W.cell? ⟨(w8.heap.size+1),5,none⟩=some (.int .i64 0)∧W.cell? ⟨(w8.heap.size+1),6,none⟩=some (.slice none 0 0)))∧((W.cell? ⟨(w8.heap.size+1),7,none⟩=some (.int .u32 0)∧W.cell? ⟨(w8.heap.size+1),8,none⟩=some (.int .u32 0))∧(W.cell? ⟨(w8.heap.size+1),9,none⟩=some (.slice none 0 0)∧W.cell? ⟨(w8.heap.size+1),10,none⟩=some (.int .u32 0))))∧(((W.cell? ⟨w6.heap.size,0,none⟩=some (.int .u8 s1.life)∧W.cell? ⟨w6.heap.size,1,none⟩=some (.int .u32 s1.pc))∧(W.cell? ⟨w6.heap.size,2,none⟩=some (.int .u32 s1.sp)∧W.cell? ⟨w6.heap.size,3,none⟩=some (.slice o1 no o2)))∧((W.cell? ⟨w6.heap.size,4,none⟩=some (.slice d1 nd2 d2)∧W.cell? ⟨w6.heap.size,5,none⟩=some (.int .u32 s1.value))∧(W.cell? ⟨w6.heap.size,6,none⟩=some (.int .u8 s1.fault)∧W.cell? ⟨w4.heap.size,1,none⟩=some (.int .u32 s1.pc))))))) hmx hH0 (fun hHeld=>?_)
     refine tk 0 hHeld ?_
     refine tk 1 hHeld ?_
     refine rd 2 _ fun K hK=>?_
     go_simp
     refine (HSR.out W10.drew HB10.out.drew).mono ?_
     rintro e w11 ⟨rfl,hb11⟩
     have hB11:Below W10.heap.size W10 w11:=Bel.tr (Below.refl _ _).drew hb11
     have hH1:=HS.out w11 hB11
     refine hK.out _ _ hH1 (fun _=>?_)
     clear hK K
     try simp only [Act.put,aT,aZ,aS]
     refine tk 3 hH1 ?_
     refine tk 4 hH1 ?_
     refine tk 5 hH1 ?_
     refine rd 6 _ fun K hK=>?_
     rw [if_pos (by rfl)]
     go_simp
     have hBd11:=Bel.tr HB10.out hB11
     refine (mstate_any (HRd2.out.x.below hBd11).m HRd2.out.st.md hops1).mono ?_
     rintro e w12 ⟨v3,v4,rfl,ho3,ho4,hb12⟩
     have HO3:=Lib.hid (And.intro ho3 ho4)
     obtain ⟨o3,o4,hv3,-⟩:=own_sl ho3
     obtain ⟨d3,d4,hv4,-⟩:=own_sl ho4
     rw [← HNo.out.1] at hv3
     rw [← HNo.out.2] at hv4
     subst hv3 hv4
     unfold stV
     have hB12:=Bel.tr hB11 hb12
     have hH2:=HS.out w12 hB12
     refine hK.out _ _ hH2 (fun _=>?_)
     clear hK K
     try simp only [Act.put,aT,aZ,aS]
     refine rd 7 _ fun K hK=>?_
     rw [if_pos (by rfl)]
     go_simp
     have HSS:=Lib.hid (show Calls Tryz.prog 13 #[.agg #[.int .u8 s1.life,.int .u32 s1.pc,.int .u32 s1.sp,.slice o1 no o2,.slice d1 nd2 d2,.int .u32 s1.value,.int .u8 s1.fault],.agg #[.int .u8 s1.life,.int .u32 s1.pc,.int .u32 s1.sp,.slice o3 no o4,.slice d3 nd2 d4,.int .u32 s1.value,.int .u8 s1.fault]] w12 (fun e w'=>e=.returned (.bool true)∧Below w12.heap.size w12 w') from sameState_r (s:=s1) (HStr.out.below (Bel.tr HB10.out hB12)) ⟨own_reads HO3.out.1,(by have h:=own_reads HO3.out.2;rw [← HRd2.out.x.m.mem.len] at h;exact h),HRd2.out.x.m.mem.lt⟩)
     refine HSS.out.mono ?_
     rintro e w13 ⟨rfl,hb13⟩
     have hB13:=Bel.tr hB12 hb13
     have hH3:=HS.out w13 hB13
     refine hK.out _ _ hH3 (fun _=>?_)
     clear hK K
     try simp only [Act.put,aT,aZ,aS]
     refine tk 8 hH3 ?_
     refine tk 9 hH3 ?_
     refine tk 10 hH3 ?_
     refine tk 11 hH3 ?_
     refine tk 12 hH3 ?_
     refine tk 13 hH3 ?_
     refine tk 14 hH3 ?_
     refine tk 15 hH3 ?_
     refine tk 16 hH3 ?_
     refine wpAnyH_done (by kernel_rfl) ?_ _
     have HB13:=Lib.hid (Bel.tr HBw8.out (Bel.tr HB10.out hB13))
     clear hHeld hH0 hH1 hH2 hH3 hB11 hB12 hB13 hb11 hb12 hb13 hBd11 ho3 ho4
     go_wp2_with fail
     go_ret
     exact ⟨rfl,HPsi.out _ HB13.out⟩
    ·have HEn:=Lib.hid hen
     have t0:w8.cell? ⟨w4.heap.size,0,none⟩=some (.int .u8 2):=by
      have h:=cell_of_row w8 w4.heap.size 0 _ _ _ HR17.out
      rw [hen] at h
      exact h
     have t1:=cell_of_row w8 w4.heap.size 1 _ _ _ HR17.out
     have t2:=cell_of_row w8 w4.heap.size 2 _ _ _ HR17.out
     have t3:=cell_of_row w8 w4.heap.size 3 _ _ _ HR17.out
     have l17:=(Array.getElem?_eq_some_iff.1 HR17.out).1
     go_wp2_with fail
     clear t0 t1 t2 t3 l17
     obtain ⟨W10,hW10⟩:∃ W,W=(w8.alloc (.cells #[.int .u8 2,.int .u32 r1.at_,.int .u32 r1.value,.int .u8 r1.fault,.int .i64 0,.int .i64 0,.slice p3 n3 c3,.int .u32 askZ.at_,.int .u32 askZ.num,.slice p4 n4 c4,.int .u32 askZ.val] 44)).alloc (.cells #[.int .u8 2,.int .u32 r1.at_,.int .u32 r1.value,.int .u8 r1.fault,.int .i64 0,.int .i64 0,.slice none 0 0,.int .u32 0,.int .u32 0,.slice none 0 0,.int .u32 0] 44):=⟨_,rfl⟩
     have hb10:Below w8.heap.size w8 W10:=by rw [hW10];exact Bel.tr (Bel.new _ _) (Bel.new _ _)
     have hr20:W10.heap[w8.heap.size]?=some (.cells #[.int .u8 2,.int .u32 r1.at_,.int .u32 r1.value,.int .u8 r1.fault,.int .i64 0,.int .i64 0,.slice p3 n3 c3,.int .u32 askZ.at_,.int .u32 askZ.num,.slice p4 n4 c4,.int .u32 askZ.val] 44 (0,0)):=by rw [hW10,heap_alloc_old _ _ (by simp)];exact heap_alloc_new _ _
     have hr22:W10.heap[w8.heap.size+1]?=some (.cells #[.int .u8 2,.int .u32 r1.at_,.int .u32 r1.value,.int .u8 r1.fault,.int .i64 0,.int .i64 0,.slice none 0 0,.int .u32 0,.int .u32 0,.slice none 0 0,.int .u32 0] 44 (0,0)):=by
      rw [hW10]
      have h2:=heap_alloc_new (w8.alloc (.cells #[.int .u8 2,.int .u32 r1.at_,.int .u32 r1.value,.int .u8 r1.fault,.int .i64 0,.int .i64 0,.slice p3 n3 c3,.int .u32 askZ.at_,.int .u32 askZ.num,.slice p4 n4 c4,.int .u32 askZ.val] 44)) (.cells #[.int .u8 2,.int .u32 r1.at_,.int .u32 r1.value,.int .u8 r1.fault,.int .i64 0,.int .i64 0,.slice none 0 0,.int .u32 0,.int .u32 0,.slice none 0 0,.int .u32 0] 44)
      rw [World.size_alloc] at h2
      exact h2
     rw [← hW10]
     clear hW10
     have hr19:=(hb10.block _ (Array.getElem?_eq_some_iff.1 HR19.out).1).trans HR19.out
     have hr17:=(hb10.block _ (Array.getElem?_eq_some_iff.1 HR17.out).1).trans HR17.out
     have HS:=Lib.hid (fun W (hW:Below W10.heap.size W10 W)=>(by
      have a20:=(hW.block _ (Array.getElem?_eq_some_iff.1 hr20).1).trans hr20
      have a22:=(hW.block _ (Array.getElem?_eq_some_iff.1 hr22).1).trans hr22
      have a19:=(hW.block _ (Array.getElem?_eq_some_iff.1 hr19).1).trans hr19
      have a17:=(hW.block _ (Array.getElem?_eq_some_iff.1 hr17).1).trans hr17
      exact ⟨⟨⟨⟨cell_of_row W w8.heap.size 0 _ _ _ a20,⟨cell_of_row W w8.heap.size 1 _ _ _ a20,cell_of_row W w8.heap.size 2 _ _ _ a20⟩⟩,⟨⟨cell_of_row W w8.heap.size 3 _ _ _ a20,cell_of_row W w8.heap.size 4 _ _ _ a20⟩,⟨cell_of_row W w8.heap.size 5 _ _ _ a20,cell_of_row W w8.heap.size 6 _ _ _ a20⟩⟩⟩,⟨⟨⟨cell_of_row W w8.heap.size 7 _ _ _ a20,cell_of_row W w8.heap.size 8 _ _ _ a20⟩,⟨cell_of_row W w8.heap.size 9 _ _ _ a20,cell_of_row W w8.heap.size 10 _ _ _ a20⟩⟩,⟨⟨cell_of_row W (w8.heap.size+1) 0 _ _ _ a22,cell_of_row W (w8.heap.size+1) 1 _ _ _ a22⟩,⟨cell_of_row W (w8.heap.size+1) 2 _ _ _ a22,cell_of_row W (w8.heap.size+1) 3 _ _ _ a22⟩⟩⟩⟩,⟨⟨⟨cell_of_row W (w8.heap.size+1) 4 _ _ _ a22,⟨cell_of_row W (w8.heap.size+1) 5 _ _ _ a22,cell_of_row W (w8.heap.size+1) 6 _ _ _ a22⟩⟩,⟨⟨cell_of_row W (w8.heap.size+1) 7 _ _ _ a22,cell_of_row W (w8.heap.size+1) 8 _ _ _ a22⟩,⟨cell_of_row W (w8.heap.size+1) 9 _ _ _ a22,cell_of_row W (w8.heap.size+1) 10 _ _ _ a22⟩⟩⟩,⟨⟨⟨cell_of_row W w6.heap.size 0 _ _ _ a19,cell_of_row W w6.heap.size 1 _ _ _ a19⟩,⟨cell_of_row W w6.heap.size 2 _ _ _ a19,cell_of_row W w6.heap.size 3 _ _ _ a19⟩⟩,⟨⟨cell_of_row W w6.heap.size 4 _ _ _ a19,cell_of_row W w6.heap.size 5 _ _ _ a19⟩,⟨cell_of_row W w6.heap.size 6 _ _ _ a19,(by have h:=cell_of_row W w4.heap.size 1 _ _ _ a17;rw [HAt.out];exact h)⟩⟩⟩⟩⟩:((((W.cell? ⟨w8.heap.size,0,none⟩=some (.int .u8 2)∧(W.cell? ⟨w8.heap.size,1,none⟩=some (.int .u32 r1.at_)∧W.cell? ⟨w8.heap.size,2,none⟩=some (.int .u32 r1.value)))∧((W.cell? ⟨w8.heap.size,3,none⟩=some (.int .u8 r1.fault)∧W.cell? ⟨w8.heap.size,4,none⟩=some (.int .i64 0))∧(W.cell? ⟨w8.heap.size,5,none⟩=some (.int .i64 0)∧W.cell? ⟨w8.heap.size,6,none⟩=some (.slice p3 n3 c3))))∧(((W.cell? ⟨w8.heap.size,7,none⟩=some (.int .u32 askZ.at_)∧W.cell? ⟨w8.heap.size,8,none⟩=some (.int .u32 askZ.num))∧(W.cell? ⟨w8.heap.size,9,none⟩=some (.slice p4 n4 c4)∧W.cell? ⟨w8.heap.size,10,none⟩=some (.int .u32 askZ.val)))∧((W.cell? ⟨(w8.heap.size+1),0,none⟩=some (.int .u8 2)∧W.cell? ⟨(w8.heap.size+1),1,none⟩=some (.int .u32 r1.at_))∧(W.cell? ⟨(w8.heap.size+1),2,none⟩=some (.int .u32 r1.value)∧W.cell? ⟨(w8.heap.size+1),3,none⟩=some (.int .u8 r1.fault)))))∧(((W.cell? ⟨(w8.heap.size+1),4,none⟩=some (.int .i64 0)∧(W.cell? ⟨(w8.heap.size+1),5,none⟩=some (.int .i64 0)∧W.cell? ⟨(w8.heap.size+1),6,none⟩=some (.slice none 0 0)))∧((W.cell? ⟨(w8.heap.size+1),7,none⟩=some (.int .u32 0)∧W.cell? ⟨(w8.heap.size+1),8,none⟩=some (.int .u32 0))∧(W.cell? ⟨(w8.heap.size+1),9,none⟩=some (.slice none 0 0)∧W.cell? ⟨(w8.heap.size+1),10,none⟩=some (.int .u32 0))))∧(((W.cell? ⟨w6.heap.size,0,none⟩=some (.int .u8 s1.life)∧W.cell? ⟨w6.heap.size,1,none⟩=some (.int .u32 s1.pc))∧(W.cell? ⟨w6.heap.size,2,none⟩=some (.int .u32 s1.sp)∧W.cell? ⟨w6.heap.size,3,none⟩=some (.slice o1 no o2)))∧((W.cell? ⟨w6.heap.size,4,none⟩=some (.slice d1 nd2 d2)∧W.cell? ⟨w6.heap.size,5,none⟩=some (.int .u32 s1.value))∧(W.cell? ⟨w6.heap.size,6,none⟩=some (.int .u8 s1.fault)∧W.cell? ⟨w4.heap.size,1,none⟩=some (.int .u32 s1.pc))))))))
     have HB10:=Lib.hid hb10
     have HSR:=Lib.hid (fun W (hW:Below w8.heap.size w8 W)=>(show Calls Tryz.prog 12 #[.agg #[.int .u8 2,.int .u32 r1.at_,.int .u32 r1.value,.int .u8 r1.fault,.int .i64 0,.int .i64 0,.slice p3 n3 c3,.int .u32 askZ.at_,.int .u32 askZ.num,.slice p4 n4 c4,.int .u32 askZ.val],.agg #[.int .u8 2,.int .u32 r1.at_,.int .u32 r1.value,.int .u8 r1.fault,.int .i64 0,.int .i64 0,.slice none 0 0,.int .u32 0,.int .u32 0,.slice none 0 0,.int .u32 0]] W (fun e w'=>e=.returned (.bool true)∧Below W.heap.size W w') from by
      have hA:=HRes2.out
      rw [HEn.out] at hA
      exact sameResult_yes (G:=fun _=>False) (hA.fr (Fr.of hW _)) (resAt_rest W (fun _=>False) 2 r1.at_ r1.value r1.fault)))
     clear hb10 hr20 hr22 hr19 hr17
     have hH0:=HS.out W10.drew (Below.refl _ _).drew
     refine wp_region_held_drew (S:=fun W=>((((W.cell? ⟨w8.heap.size,0,none⟩=some (.int .u8 2)∧(W.cell? ⟨w8.heap.size,1,none⟩=some (.int .u32 r1.at_)∧W.cell? ⟨w8.heap.size,2,none⟩=some (.int .u32 r1.value)))∧((W.cell? ⟨w8.heap.size,3,none⟩=some (.int .u8 r1.fault)∧W.cell? ⟨w8.heap.size,4,none⟩=some (.int .i64 0))∧(W.cell? ⟨w8.heap.size,5,none⟩=some (.int .i64 0)∧W.cell? ⟨w8.heap.size,6,none⟩=some (.slice p3 n3 c3))))∧(((W.cell? ⟨w8.heap.size,7,none⟩=some (.int .u32 askZ.at_)∧W.cell? ⟨w8.heap.size,8,none⟩=some (.int .u32 askZ.num))∧(W.cell? ⟨w8.heap.size,9,none⟩=some (.slice p4 n4 c4)∧W.cell? ⟨w8.heap.size,10,none⟩=some (.int .u32 askZ.val)))∧((W.cell? ⟨(w8.heap.size+1),0,none⟩=some (.int .u8 2)∧W.cell? ⟨(w8.heap.size+1),1,none⟩=some (.int .u32 r1.at_))∧(W.cell? ⟨(w8.heap.size+1),2,none⟩=some (.int .u32 r1.value)∧W.cell? ⟨(w8.heap.size+1),3,none⟩=some (.int .u8 r1.fault)))))∧(((W.cell? ⟨(w8.heap.size+1),4,none⟩=some (.int .i64 0)∧(W.cell? ⟨(w8.heap.size+1),5,none⟩=some (.int .i64 0)∧W.cell? ⟨(w8.heap.size+1),6,none⟩=some (.slice none 0 0)))∧((W.cell? ⟨(w8.heap.size+1),7,none⟩=some (.int .u32 0)∧W.cell? ⟨(w8.heap.size+1),8,none⟩=some (.int .u32 0))∧(W.cell? ⟨(w8.heap.size+1),9,none⟩=some (.slice none 0 0)∧W.cell? ⟨(w8.heap.size+1),10,none⟩=some (.int .u32 0))))∧(((W.cell? ⟨w6.heap.size,0,none⟩=some (.int .u8 s1.life)∧W.cell? ⟨w6.heap.size,1,none⟩=some (.int .u32 s1.pc))∧(W.cell? ⟨w6.heap.size,2,none⟩=some (.int .u32 s1.sp)∧W.cell? ⟨w6.heap.size,3,none⟩=some (.slice o1 no o2)))∧((W.cell? ⟨w6.heap.size,4,none⟩=some (.slice d1 nd2 d2)∧W.cell? ⟨w6.heap.size,5,none⟩=some (.int .u32 s1.value))∧(W.cell? ⟨w6.heap.size,6,none⟩=some (.int .u8 s1.fault)∧W.cell? ⟨w4.heap.size,1,none⟩=some (.int .u32 s1.pc))))))) hmx hH0 (fun hHeld=>?_)
     refine tk 0 hHeld ?_
     refine tk 1 hHeld ?_
     refine rd 2 _ fun K hK=>?_
     go_simp
     refine (HSR.out W10.drew HB10.out.drew).mono ?_
     rintro e w11 ⟨rfl,hb11⟩
     have hB11:Below W10.heap.size W10 w11:=Bel.tr (Below.refl _ _).drew hb11
     have hH1:=HS.out w11 hB11
     refine hK.out _ _ hH1 (fun _=>?_)
     clear hK K
     try simp only [Act.put,aT,aZ,aS]
     refine tk 3 hH1 ?_
     refine tk 4 hH1 ?_
     refine tk 5 hH1 ?_
     refine rd 6 _ fun K hK=>?_
     rw [if_pos (by rfl)]
     go_simp
     have hBd11:=Bel.tr HB10.out hB11
     refine (mstate_any (HRd2.out.x.below hBd11).m HRd2.out.st.md hops1).mono ?_
     rintro e w12 ⟨v3,v4,rfl,ho3,ho4,hb12⟩
     have HO3:=Lib.hid (And.intro ho3 ho4)
     obtain ⟨o3,o4,hv3,-⟩:=own_sl ho3
     obtain ⟨d3,d4,hv4,-⟩:=own_sl ho4
     rw [← HNo.out.1] at hv3
     rw [← HNo.out.2] at hv4
     subst hv3 hv4
     unfold stV
     have hB12:=Bel.tr hB11 hb12
     have hH2:=HS.out w12 hB12
     refine hK.out _ _ hH2 (fun _=>?_)
     clear hK K
     try simp only [Act.put,aT,aZ,aS]
     refine rd 7 _ fun K hK=>?_
     rw [if_pos (by rfl)]
     go_simp
     have HSS:=Lib.hid (show Calls Tryz.prog 13 #[.agg #[.int .u8 s1.life,.int .u32 s1.pc,.int .u32 s1.sp,.slice o1 no o2,.slice d1 nd2 d2,.int .u32 s1.value,.int .u8 s1.fault],.agg #[.int .u8 s1.life,.int .u32 s1.pc,.int .u32 s1.sp,.slice o3 no o4,.slice d3 nd2 d4,.int .u32 s1.value,.int .u8 s1.fault]] w12 (fun e w'=>e=.returned (.bool true)∧Below w12.heap.size w12 w') from sameState_r (s:=s1) (HStr.out.below (Bel.tr HB10.out hB12)) ⟨own_reads HO3.out.1,(by have h:=own_reads HO3.out.2;rw [← HRd2.out.x.m.mem.len] at h;exact h),HRd2.out.x.m.mem.lt⟩)
     refine HSS.out.mono ?_
     rintro e w13 ⟨rfl,hb13⟩
     have hB13:=Bel.tr hB12 hb13
     have hH3:=HS.out w13 hB13
     refine hK.out _ _ hH3 (fun _=>?_)
     clear hK K
     try simp only [Act.put,aT,aZ,aS]
     refine tk 8 hH3 ?_
     refine tk 9 hH3 ?_
     refine tk 10 hH3 ?_
     refine tk 11 hH3 ?_
     refine tk 12 hH3 ?_
     refine tk 13 hH3 ?_
     refine tk 14 hH3 ?_
     refine tk 15 hH3 ?_
     refine tk 16 hH3 ?_
     refine wpAnyH_done (by kernel_rfl) ?_ _
     have HB13:=Lib.hid (Bel.tr HBw8.out (Bel.tr HB10.out hB13))
     clear hHeld hH0 hH1 hH2 hH3 hB11 hB12 hB13 hb11 hb12 hb13 hBd11 ho3 ho4
     go_wp2_with fail
     go_ret
     exact ⟨rfl,HPsi.out _ HB13.out⟩
  ·have hfit2':repsFit later=false:=by cases h:repsFit later;rfl;exact absurd h hfit2
   have HGo2:=Lib.hid (go_reply (fuel:=(f2:Int)) HRd7.out (by omega) (by omega) HRS2.out.at_ hfit2')
   refine HGo2.out.mono ?_
   rintro e w8 ⟨rfl,hb8⟩
   have HB8:=Lib.hid (Bel.tr (Bel.tr HBw0.out HRd7.out.home.b) hb8)
   clear hb8
   go_wp2_with fail
   go_ret
   exact ⟨rfl,HPsi.out _ (Bel.tr HB8.out (Bel.new _ _))⟩
 ·have hfit1':repsFit reps=false:=by cases h:repsFit reps;rfl;exact absurd h hfit1
  have HGo1:=Lib.hid (go_reply (fuel:=(f1:Int)) HRd.out (by omega) (by omega) HRS1.out.at_ hfit1')
  refine HGo1.out.mono ?_
  rintro e w4 ⟨rfl,hb4⟩
  have HSt1:=Lib.hid (fun X (hX:Below w4.heap.size w4 X)=>mstate_any (HRd.out.x.below (Bel.tr hb4 hX)).m HRd.out.st.md hx5)
  have HB4:=Lib.hid hb4
  clear hb4
  go_wp2_with fail
  refine (HSt1.out _ (Bel.new _ _)).mono ?_
  rintro e w6 ⟨v1,v2,rfl,ho1,ho2,hb6⟩
  obtain ⟨o1,o2,hv1,-⟩:=own_sl ho1
  obtain ⟨d1,d2,hv2,-⟩:=own_sl ho2
  generalize s0.ops.length=no at *
  generalize M.N=nd2 at *
  subst hv1 hv2
  unfold stV
  have HB6:=Lib.hid (Bel.tr (Bel.tr HB4.out (Bel.new _ _)) hb6)
  clear ho1 ho2 hb6
  go_wp2_with fail
  refine (HF2.out _).mono ?_
  rintro e w7 ⟨rfl,rfl⟩
  have hB7:=Bel.tr HB6.out (Bel.new w6 (.cells #[.int .u8 s0.life,.int .u32 s0.pc,.int .u32 s0.sp,.slice o1 no o2,.slice d1 nd2 d2,.int .u32 s0.value,.int .u8 s0.fault] 51))
  have hrd7:Rdy w0 _ b K s0 (.slice none 0 0) R0 M (.slice none 0 0) [] gr mb m:=⟨HRd.out.st,HRd.out.x.below hB7,HRd.out.home.fr (Fr.of hB7 _),HRd.out.wf,HRd.out.fit,HRd.out.rn,HRd.out.en⟩
  have hrs2:=RepsS.home hrd7.home (HLa.out.below HBw0.out)
  have HRd7:=Lib.hid hrd7
  have HRS2:=Lib.hid hrs2
  clear hB7 hrd7 hrs2
  go_wp2_with fail
  by_cases hfit2:repsFit later=true
  ·have HGo2:=Lib.hid (go_any HRd7.out hp2 HRS2.out hfit2)
   refine HGo2.out.mono ?_
   rintro e w8 ⟨v,vo2,R2,vt2,rfl,hres2,hrd2,hon2,hfr2⟩
   obtain ⟨ve2,va2,rfl,hev2,hva2,hvo2⟩:=id hres2
   obtain ⟨p3,n3,c3,hve2⟩:∃ a n c,ve2=.slice a n c:=by obtain ⟨xs,-,ho,-⟩:=hev2;obtain ⟨a,c,h,-⟩:=own_sl ho;exact ⟨a,_,c,h⟩
   obtain ⟨p4,n4,c4,hva2'⟩:∃ a n c,va2=.slice a n c:=by obtain ⟨a,c,h,-⟩:=own_sl hva2;exact ⟨a,_,c,h⟩
   subst hve2 hva2'
   have HB8:=Lib.hid (Bel.tr HBw0.out hrd2.home.b)
   clear hres2 hrd2 hon2 hfr2 hev2 hva2 hvo2 HGo2
   unfold resRow
   go_wp2_with fail
   go_ret
   exact ⟨rfl,HPsi.out _ (Bel.tr HB8.out (Bel.new _ _))⟩
  ·have hfit2':repsFit later=false:=by cases h:repsFit later;rfl;exact absurd h hfit2
   have HGo2:=Lib.hid (go_reply (fuel:=(f2:Int)) HRd7.out (by omega) (by omega) HRS2.out.at_ hfit2')
   refine HGo2.out.mono ?_
   rintro e w8 ⟨rfl,hb8⟩
   have HB8:=Lib.hid (Bel.tr (Bel.tr HBw0.out HRd7.out.home.b) hb8)
   clear hb8
   go_wp2_with fail
   go_ret
   exact ⟨rfl,HPsi.out _ (Bel.tr HB8.out (Bel.new _ _))⟩
end
open Go.ChangeShapes Go.WideShapes Go.ChangeAt Go.RowKit Go.Joins Go.Deep
section
variable {H:Type} {enc:TypeId×Value→H} {w:World} {base:Nat}
theorem open_words3 {n:Nat} {v:Value} {x:DataW H×List MemPlace} (hf:DataW.trod enc Tryz.prog w base (fun _=>true) true n 23 [v]=some x):∃ l:List Nat,Words w v l:=by
 rcases open_ints Tryz.underlying23 Tryz.underlying25 cells33 hf with ⟨hcs,_⟩|⟨a,len0,cap0,zs,hcs,_,hl,hm,hzl,hx,hcell,hwz⟩
 ·simp at hcs
  subst hcs
  exact ⟨[],⟨Reads.nil w 1,fun k=>by simp⟩⟩
 ·simp at hcs
  subst hcs
  rw [if_pos rfl] at hzl
  have key:∀ i,i<len0→∃ q:Nat,w.cell? (a.add i)=some (.int .u32 (q:Nat))∧q<4294967296:=by
   intro i hil
   have hiz:i<zs.length:=by omega
   have hc:=hcell i hiz
   rw [List.getD_eq_getElem?_getD,List.getElem?_eq_getElem hiz] at hc
   obtain ⟨o,ho,hlt⟩:=u32_of (hwz _ (List.getElem_mem hiz))
   simp only [Option.getD_some] at hc
   rw [ho] at hc
   exact ⟨o,hc,hlt⟩
  obtain ⟨l,hll,hl2⟩:=choose_list len0 _ key
  refine ⟨l,⟨⟨some a,cap0,by rw [hll],by rw [encN_length,Nat.mul_one],by omega,hm,(fun h=>by cases h),fun h0=>?_⟩,getD_lt (fun i hi=>(hl2 i hi).2) (by decide)⟩⟩
  obtain ⟨b,off,spot⟩:=a
  have hc:=(hl2 0 h0).1
  have hspot:spot=none:=by simpa [Addr.add] using World.cell?_spot hc
  subst hspot
  refine ⟨b,off,rfl,by simpa [Addr.add] using World.block_lt_of_cell? w _ hc,fun k hk=>?_⟩
  rw [encN_length] at hk
  have hR:=(hl2 k hk).1
  rw [Addr.add_mid] at hR
  rw [hR,encN_at _ l k hk,getD_get l 0 hk]
theorem open_bytes3 {n:Nat} {v:Value} {x:DataW H×List MemPlace} (hf:DataW.trod enc Tryz.prog w base (fun _=>true) true n 24 [v]=some x):∃ l:List Nat,Bytes w v l:=by
 rcases open_ints Tryz.underlying24 Tryz.underlying5 cells5 hf with ⟨hcs,_⟩|⟨a,len0,cap0,zs,hcs,_,hl,hm,hzl,hx,hcell,hwz⟩
 ·simp at hcs
  subst hcs
  exact ⟨[],⟨Reads.nil w 1,fun k=>by simp⟩⟩
 ·simp at hcs
  subst hcs
  rw [if_pos rfl] at hzl
  have key:∀ i,i<len0→∃ q:Nat,w.cell? (a.add i)=some (.int .u8 (q:Nat))∧q<256:=by
   intro i hil
   have hiz:i<zs.length:=by omega
   have hc:=hcell i hiz
   rw [List.getD_eq_getElem?_getD,List.getElem?_eq_getElem hiz] at hc
   obtain ⟨o,ho,hlt⟩:=u8_of (hwz _ (List.getElem_mem hiz))
   simp only [Option.getD_some] at hc
   rw [ho] at hc
   exact ⟨o,hc,hlt⟩
  obtain ⟨l,hll,hl2⟩:=choose_list len0 _ key
  refine ⟨l,⟨⟨some a,cap0,by rw [hll],by rw [encN_length,Nat.mul_one],by omega,hm,(fun h=>by cases h),fun h0=>?_⟩,fun i hi=>by
   obtain ⟨k,hk,rfl⟩:=List.mem_iff_getElem.1 hi
   exact (hl2 k hk).2⟩⟩
  obtain ⟨b,off,spot⟩:=a
  have hc:=(hl2 0 h0).1
  have hspot:spot=none:=by simpa [Addr.add] using World.cell?_spot hc
  subst hspot
  refine ⟨b,off,rfl,by simpa [Addr.add] using World.block_lt_of_cell? w _ hc,fun k hk=>?_⟩
  rw [encN_length] at hk
  have hR:=(hl2 k hk).1
  rw [Addr.add_mid] at hR
  rw [hR,encN_at _ l k hk,getD_get l 0 hk]
theorem encG_get (l:List (Nat×Int)) (R:Nat→Value→Prop) (h0:∀ i (hi:i<l.length),R (i * 2) (.int .u32 (l[i].1:Nat))) (h1:∀ i (hi:i<l.length),R (i * 2+1) (.int .i64 l[i].2)) :
 ∀ j,j<(encG l).length→∃ u,(encG l)[j]?=some u∧R j u:=by
 intro j hj
 rw [encG_len] at hj
 rcases Nat.mod_two_eq_zero_or_one j with e|e
 ·obtain ⟨k,rfl⟩:∃ k,j=k * 2:=⟨j / 2,by omega⟩
  have hk:k<l.length:=by omega
  refine ⟨_,(encG_at l k hk).1,?_⟩
  have:=h0 k hk
  rwa [List.getD_eq_getElem?_getD,List.getElem?_eq_getElem hk]
 ·obtain ⟨k,rfl⟩:∃ k,j=k * 2+1:=⟨j / 2,by omega⟩
  have hk:k<l.length:=by omega
  refine ⟨_,(encG_at l k hk).2,?_⟩
  have:=h1 k hk
  rwa [List.getD_eq_getElem?_getD,List.getElem?_eq_getElem hk]
theorem cells166:Tryz.prog.cellsOf 73=2:=by kernel_rfl
theorem cells162o:Tryz.prog.cellsOf 69=2:=by kernel_rfl
theorem cells383o:Tryz.prog.cellsOf 146=2:=by kernel_rfl
theorem open_grants2 {n:Nat} {v:Value} {x:DataW H×List MemPlace} (hf:DataW.trod enc Tryz.prog w base (fun _=>true) true n 29 [v]=some x):∃ gr:List (Nat×Int),GrantsAt w v gr:=by
 rcases open_slice_fields Tryz.underlying29 Tryz.underlying73 (by kernel_rfl) cells166 hf with ⟨hcs,_⟩|⟨a,len0,cap0,m,D,Pl,hcs,_,hl,hm,hmm,hx,hi⟩
 ·simp at hcs
  subst hcs
  exact ⟨[],⟨Reads.nil w 2,fun i hi=>by cases hi⟩⟩
 ·simp at hcs
  subst hcs
  rw [if_pos rfl] at hmm
  subst hmm
  have key:∀ i,i<len0→∃ q:Nat×Int,(w.cell? (a.add (i * 2))=some (.int .u32 (q.1:Nat))∧w.cell? (a.add (i * 2+1))=some (.int .i64 q.2))∧q.1<4294967296:=by
   intro i hil
   obtain ⟨ys,n,_,_,_,hfs⟩:=hi i (by omega)
   obtain ⟨v0,y0,hc0,_,t0⟩:=hfs 0 _ rfl
   obtain ⟨v1,y1,hc1,_,t1⟩:=hfs 1 _ rfl
   obtain ⟨x,e0,_,w0⟩:=DataW.trod_int Tryz.underlying25 t0
   obtain ⟨y,e1,_,w1⟩:=DataW.trod_int Tryz.underlying3 t1
   simp at e0 e1
   subst e0 e1
   obtain ⟨o,rfl,ho⟩:=u32_of w0
   exact ⟨(o,y),⟨hc0,hc1⟩,ho⟩
  obtain ⟨l,hll,hl2⟩:=choose_list len0 _ key
  refine ⟨l,⟨⟨some a,m,by rw [hll],encG_len l,by omega,hm,(fun h=>by cases h),fun h0=>?_⟩,fun i hi=>?_⟩⟩
  ·obtain ⟨b,off,spot⟩:=a
   have hc:=(hl2 0 h0).1.1
   have hspot:spot=none:=by simpa [Addr.add] using World.cell?_spot hc
   subst hspot
   refine ⟨b,off,rfl,by simpa [Addr.add] using World.block_lt_of_cell? w _ hc,fun j hj=>?_⟩
   obtain ⟨u,e,hR⟩:=encG_get l (fun j u=>w.cell? ((⟨b,off,none⟩:Addr).add j)=some u) (fun i hi=>(hl2 i hi).1.1) (fun i hi=>(hl2 i hi).1.2) j hj
   rw [e,← hR,Addr.add_mid]
  ·obtain ⟨k,hk,rfl⟩:=List.mem_iff_getElem.1 hi
   exact (hl2 k hk).2
instance:Inhabited ((Nat×List Nat)×Value):=⟨((0,[]),undef)⟩
instance:Inhabited (Rep×Value):=⟨(⟨0,[]⟩,undef)⟩
theorem open_writes2 {n:Nat} {v:Value} {x:DataW H×List MemPlace} (hf:DataW.trod enc Tryz.prog w base (fun _=>true) true n 67 [v]=some x):∃ ws:List (Nat×List Nat),WsAt w v ws:=by
 rcases open_slice_fields Tryz.underlying67 Tryz.underlying146 (by kernel_rfl) cells383o hf with ⟨hcs,_⟩|⟨a,len0,cap0,m,D,Pl,hcs,_,hl,hm,hmm,hx,hi⟩
 ·simp at hcs
  subst hcs
  exact ⟨[],none,0,rfl,Nat.le_refl _,Nat.zero_le _,by simp,by simp⟩
 ·simp at hcs
  subst hcs
  rw [if_pos rfl] at hmm
  subst hmm
  have key:∀ i,i<len0→∃ q:(Nat×List Nat)×Value,(w.cell? (a.add (i * 2))=some (.int .u32 (q.1.1:Nat))∧w.cell? (a.add (i * 2+1))=some q.2)∧q.1.1<4294967296∧Bytes w q.2 q.1.2:=by
   intro i hil
   obtain ⟨ys,n,_,_,_,hfs⟩:=hi i (by omega)
   obtain ⟨v0,y0,hc0,_,t0⟩:=hfs 0 _ rfl
   obtain ⟨v1,y1,hc1,_,t1⟩:=hfs 1 _ rfl
   obtain ⟨x,e0,_,w0⟩:=DataW.trod_int Tryz.underlying25 t0
   simp at e0
   subst e0
   obtain ⟨o,rfl,ho⟩:=u32_of w0
   obtain ⟨bs,hb⟩:=open_bytes3 t1
   exact ⟨((o,bs),v1),⟨hc0,hc1⟩,ho,hb⟩
  obtain ⟨l,hll,hl2⟩:=choose_list len0 _ key
  refine ⟨l.map (·.1),some a,m,by rw [List.length_map,hll],by rw [List.length_map];omega,hm,fun x hx=>?_,fun h0=>?_⟩
  ·obtain ⟨y,hy,rfl⟩:=List.mem_map.1 hx
   obtain ⟨k,hk,rfl⟩:=List.mem_iff_getElem.1 hy
   exact (hl2 k hk).2.1
  ·rw [List.length_map] at h0
   obtain ⟨b,off,spot⟩:=a
   have hc:=(hl2 0 h0).1.1
   have hspot:spot=none:=by simpa [Addr.add] using World.cell?_spot hc
   subst hspot
   refine ⟨b,off,fun i=>(l.getD i default).2,rfl,by simpa [Addr.add] using World.block_lt_of_cell? w _ hc,fun i hi=>?_⟩
   rw [List.length_map] at hi
   have e1:(l.map (·.1)).getD i (0,[])=l[i].1:=by rw [List.getD_eq_getElem?_getD,List.getElem?_map,List.getElem?_eq_getElem hi];rfl
   have e2:l.getD i default=l[i]:=by rw [List.getD_eq_getElem?_getD,List.getElem?_eq_getElem hi];rfl
   have h:=hl2 i hi
   rw [Addr.add_mid,Addr.add_mid] at h
   dsimp only
   rw [e1,e2]
   exact ⟨h.1.1,h.1.2,h.2.2⟩
theorem open_replies2 {n:Nat} {v:Value} {x:DataW H×List MemPlace} (hf:DataW.trod enc Tryz.prog w base (fun _=>true) true n 32 [v]=some x):∃ rs:List Rep,RepsAt w v rs:=by
 rcases open_slice_fields Tryz.underlying32 Tryz.underlying69 (by kernel_rfl) cells162o hf with ⟨hcs,_⟩|⟨a,len0,cap0,m,D,Pl,hcs,_,hl,hm,hmm,hx,hi⟩
 ·simp at hcs
  subst hcs
  exact ⟨[],none,0,rfl,Nat.le_refl _,Nat.zero_le _,by simp,by simp⟩
 ·simp at hcs
  subst hcs
  rw [if_pos rfl] at hmm
  subst hmm
  have key:∀ i,i<len0→∃ q:Rep×Value,(w.cell? (a.add (i * 2))=some (.int .u32 (q.1.val:Nat))∧w.cell? (a.add (i * 2+1))=some q.2)∧q.1.val<4294967296∧WsAt w q.2 q.1.ws:=by
   intro i hil
   obtain ⟨ys,n,_,_,_,hfs⟩:=hi i (by omega)
   obtain ⟨v0,y0,hc0,_,t0⟩:=hfs 0 _ rfl
   obtain ⟨v1,y1,hc1,_,t1⟩:=hfs 1 _ rfl
   obtain ⟨x,e0,_,w0⟩:=DataW.trod_int Tryz.underlying25 t0
   simp at e0
   subst e0
   obtain ⟨o,rfl,ho⟩:=u32_of w0
   obtain ⟨ws,hb⟩:=open_writes2 t1
   exact ⟨(⟨o,ws⟩,v1),⟨hc0,hc1⟩,ho,hb⟩
  obtain ⟨l,hll,hl2⟩:=choose_list len0 _ key
  refine ⟨l.map (·.1),some a,m,by rw [List.length_map,hll],by rw [List.length_map];omega,hm,fun x hx=>?_,fun h0=>?_⟩
  ·obtain ⟨y,hy,rfl⟩:=List.mem_map.1 hx
   obtain ⟨k,hk,rfl⟩:=List.mem_iff_getElem.1 hy
   exact (hl2 k hk).2.1
  ·rw [List.length_map] at h0
   obtain ⟨b,off,spot⟩:=a
   have hc:=(hl2 0 h0).1.1
   have hspot:spot=none:=by simpa [Addr.add] using World.cell?_spot hc
   subst hspot
   refine ⟨b,off,fun i=>(l.getD i default).2,rfl,by simpa [Addr.add] using World.block_lt_of_cell? w _ hc,fun i hi=>?_⟩
   rw [List.length_map] at hi
   have e1:(l.map (·.1)).getD i ⟨0,[]⟩=l[i].1:=by rw [List.getD_eq_getElem?_getD,List.getElem?_map,List.getElem?_eq_getElem hi];rfl
   have e2:l.getD i default=l[i]:=by rw [List.getD_eq_getElem?_getD,List.getElem?_eq_getElem hi];rfl
   have h:=hl2 i hi
   rw [Addr.add_mid,Addr.add_mid] at h
   dsimp only
   rw [e1,e2]
   exact ⟨h.1.1,h.1.2,h.2.2⟩
theorem open_names3 {n:Nat} {v:Value} {x:DataW H×List MemPlace} (hf:DataW.trod enc Tryz.prog w base (fun _=>true) true n 26 [v]=some x):∃ l:List (ByteArray×Nat),Texts w v l:=by
 rcases open_slice_fields Tryz.underlying26 Tryz.underlying167 (by kernel_rfl) cells52 hf with ⟨hcs,_⟩|⟨a,len0,cap0,m,D,Pl,hcs,_,hl,hm,hmm,hx,hi⟩
 ·simp at hcs
  subst hcs
  exact ⟨[],⟨Reads.nil w 2,fun k=>by simp⟩⟩
 ·simp at hcs
  subst hcs
  rw [if_pos rfl] at hmm
  subst hmm
  have key:∀ i,i<len0→∃ q:ByteArray×Nat,(w.cell? (a.add (i * 2))=some (.string q.1)∧w.cell? (a.add (i * 2+1))=some (.int .u32 (q.2:Nat)))∧q.2<4294967296:=by
   intro i hil
   obtain ⟨ys,n,_,_,_,hfs⟩:=hi i (by omega)
   obtain ⟨v0,y0,hc0,_,t0⟩:=hfs 0 _ rfl
   obtain ⟨v1,y1,hc1,_,t1⟩:=hfs 1 _ rfl
   obtain ⟨s,e0,_,_⟩:=DataW.trod_string Tryz.underlying9 t0
   obtain ⟨y,e1,_,w1⟩:=DataW.trod_int Tryz.underlying25 t1
   simp at e0 e1
   subst e0 e1
   obtain ⟨z,rfl,hz⟩:=u32_of w1
   exact ⟨(s,z),⟨hc0,hc1⟩,hz⟩
  obtain ⟨l,hll,hl2⟩:=choose_list len0 _ key
  refine ⟨l,⟨⟨some a,m,by rw [hll],encX_length l,by omega,hm,(fun h=>by cases h),fun h0=>?_⟩,getD_lt (fun i hi=>?_) (by decide)⟩⟩
  ·obtain ⟨b,off,spot⟩:=a
   have hc:=(hl2 0 h0).1.1
   have hspot:spot=none:=by simpa [Addr.add] using World.cell?_spot hc
   subst hspot
   refine ⟨b,off,rfl,by simpa [Addr.add] using World.block_lt_of_cell? w _ hc,fun j hj=>?_⟩
   rw [encX_length] at hj
   obtain ⟨k,hk⟩:∃ k,k=j / 2:=⟨_,rfl⟩
   have hkl:k<l.length:=by omega
   obtain ⟨e1,e2⟩:=encX_at l k hkl
   obtain ⟨⟨h1,h2⟩,-⟩:=hl2 k hkl
   rw [Addr.add_mid] at h1 h2
   rw [getD_get l _ hkl] at e1 e2
   rcases Nat.mod_two_eq_zero_or_one j with e|e
   ·obtain rfl:j=k * 2:=by omega
    rw [h1,e1]
   ·obtain rfl:j=k * 2+1:=by omega
    rw [h2,e2]
  ·rw [List.length_map] at hi
   rw [List.getElem_map]
   exact (hl2 i hi).2
theorem open_instrs3 {n:Nat} {v:Value} {x:DataW H×List MemPlace} (hf:DataW.trod enc Tryz.prog w base (fun _=>true) true n 22 [v]=some x):∃ l:List (Nat×Nat),Instrs w v l:=by
 rcases open_slice_fields Tryz.underlying22 Tryz.underlying106 (by kernel_rfl) cells40 hf with ⟨hcs,_⟩|⟨a,len0,cap0,m,D,Pl,hcs,_,hl,hm,hmm,hx,hi⟩
 ·simp at hcs
  subst hcs
  exact ⟨[],⟨Reads.nil w 2,fun i hi=>by cases hi⟩⟩
 ·simp at hcs
  subst hcs
  rw [if_pos rfl] at hmm
  subst hmm
  have key:∀ i,i<len0→∃ q:Nat×Nat,(w.cell? (a.add (i * 2))=some (.int .u8 (q.1:Nat))∧w.cell? (a.add (i * 2+1))=some (.int .u32 (q.2:Nat)))∧q.1<256∧q.2<4294967296:=by
   intro i hil
   obtain ⟨ys,n,_,_,_,hfs⟩:=hi i (by omega)
   obtain ⟨v0,y0,hc0,_,t0⟩:=hfs 0 _ rfl
   obtain ⟨v1,y1,hc1,_,t1⟩:=hfs 1 _ rfl
   obtain ⟨x,e0,_,w0⟩:=DataW.trod_int Tryz.underlying104 t0
   obtain ⟨y,e1,_,w1⟩:=DataW.trod_int Tryz.underlying25 t1
   simp at e0 e1
   subst e0 e1
   obtain ⟨o,rfl,ho⟩:=u8_of w0
   obtain ⟨z,rfl,hz⟩:=u32_of w1
   exact ⟨(o,z),⟨hc0,hc1⟩,ho,hz⟩
  obtain ⟨l,hll,hl2⟩:=choose_list len0 _ key
  refine ⟨l,⟨⟨some a,m,by rw [hll],encI_length l,by omega,hm,(fun h=>by cases h),fun h0=>?_⟩,fun i hi=>?_⟩⟩
  ·obtain ⟨b,off,spot⟩:=a
   have hc:=(hl2 0 h0).1.1
   have hspot:spot=none:=by simpa [Addr.add] using World.cell?_spot hc
   subst hspot
   refine ⟨b,off,rfl,by simpa [Addr.add] using World.block_lt_of_cell? w _ hc,fun j hj=>?_⟩
   obtain ⟨u,e,hR⟩:=encI_get l (fun j u=>w.cell? ((⟨b,off,none⟩:Addr).add j)=some u) (fun i hi=>(hl2 i hi).1.1) (fun i hi=>(hl2 i hi).1.2) j hj
   rw [e,← hR,Addr.add_mid]
  ·obtain ⟨k,hk,rfl⟩:=List.mem_iff_getElem.1 hi
   exact (hl2 k hk).2
theorem ocells126:Tryz.prog.cellsOf 31=7:=by kernel_rfl
theorem ocells40:Tryz.prog.cellsOf 29=1:=by kernel_rfl
theorem open_case {r:Reach} {b0:Nat} {v:Value} {d:DataW H} {p:List MemPlace} (hv:Value.okWide Tryz.prog w r b0 31 v) (h:DataW.Trod enc Tryz.prog w base (fun _=>true) true 31 v d p) :
 ∃ (vc vj vd vn vg:Value) (m:Img) (gr:List (Nat×Int)),v=.agg #[vc,vj,vd,.int .u32 m.zero,.int .u32 m.stack,vn,vg]∧ImgAt w vc vj vd vn m∧GrantsAt w vg gr:=by
 obtain ⟨cs,rfl,hsz⟩:=okWide_struct Tryz.underlying31 hv
 rw [ocells126] at hsz
 obtain ⟨fuel,hf⟩:=h
 obtain ⟨xs,n,_,_,_,_,hg⟩:=DataW.trod_struct Tryz.underlying31 hf
 have h0:=hg 0 _ rfl
 have h1:=hg 1 _ rfl
 have hcl:(Value.cells (.agg cs)).toList.length=7:=by simp [Value.cells,hsz]
 generalize hcs:(Value.cells (.agg cs)).toList=L at *
 have hL:L=cs.toList:=by rw [← hcs];simp [Value.cells]
 obtain ⟨a0,a1,a2,a3,a4,a5,a6,rfl⟩:∃ a0 a1 a2 a3 a4 a5 a6,L=[a0,a1,a2,a3,a4,a5,a6]:=by
  match L,hcl with
  | [a0,a1,a2,a3,a4,a5,a6],_=>exact ⟨a0,a1,a2,a3,a4,a5,a6,rfl⟩
 have h0':DataW.trod enc Tryz.prog w base (fun _=>true) true n 28 [a0,a1,a2,a3,a4,a5]=xs[0]?:=by
  have e:(([a0,a1,a2,a3,a4,a5,a6].drop 0).take (Tryz.prog.cellsOf 28))=[a0,a1,a2,a3,a4,a5]:=by rw [ocells28];rfl
  rw [← e];exact h0
 have h1':DataW.trod enc Tryz.prog w base (fun _=>true) true n 29 [a6]=xs[1]?:=by
  have e:(([a0,a1,a2,a3,a4,a5,a6].drop 6).take (Tryz.prog.cellsOf 29))=[a6]:=by rw [ocells40];rfl
  rw [← e];exact h1
 have hl2:xs.length=2:=by assumption
 rw [List.getElem?_eq_getElem (show 0<xs.length by omega)] at h0'
 rw [List.getElem?_eq_getElem (show 1<xs.length by omega)] at h1'
 obtain ⟨gr,hgr⟩:=open_grants2 h1'
 obtain ⟨ys,n2,_,_,_,hyl,hg2⟩:=DataW.trod_struct Tryz.underlying28 h0'
 have get:∀ (j:Nat) (f:Field) (u:Value),Tryz.prog.underlying 28=some (.struct #[]) ∨ True→∀ (t:TypeId) (k:Nat),True→True:=fun _ _ _ _ _ _ _=>trivial
 have hj:∀ (j:Nat) (hjl:j<ys.length),ys[j]?=some ys[j]:=fun j hjl=>List.getElem?_eq_getElem hjl
 have hy6:ys.length=6:=hyl
 have t0:=(show DataW.trod enc Tryz.prog w base (fun _=>true) true n2 22 [a0]=ys[0]? from hg2 0 _ rfl).trans (hj 0 (by omega))
 have t1:=(show DataW.trod enc Tryz.prog w base (fun _=>true) true n2 23 [a1]=ys[1]? from hg2 1 _ rfl).trans (hj 1 (by omega))
 have t2:=(show DataW.trod enc Tryz.prog w base (fun _=>true) true n2 24 [a2]=ys[2]? from hg2 2 _ rfl).trans (hj 2 (by omega))
 have t3:=(show DataW.trod enc Tryz.prog w base (fun _=>true) true n2 25 [a3]=ys[3]? from hg2 3 _ rfl).trans (hj 3 (by omega))
 have t4:=(show DataW.trod enc Tryz.prog w base (fun _=>true) true n2 25 [a4]=ys[4]? from hg2 4 _ rfl).trans (hj 4 (by omega))
 have t5:=(show DataW.trod enc Tryz.prog w base (fun _=>true) true n2 26 [a5]=ys[5]? from hg2 5 _ rfl).trans (hj 5 (by omega))
 obtain ⟨code,hc⟩:=open_instrs3 t0
 obtain ⟨js,hjs⟩:=open_words3 t1
 obtain ⟨data,hdt⟩:=open_bytes3 t2
 obtain ⟨lx,hn⟩:=open_names3 t5
 obtain ⟨x3,f3,_,w3⟩:=DataW.trod_int Tryz.underlying25 t3
 obtain ⟨x4,f4,_,w4⟩:=DataW.trod_int Tryz.underlying25 t4
 simp at f3 f4
 subst f3 f4
 obtain ⟨z,rfl,hz⟩:=u32_of w3
 obtain ⟨s,rfl,hst⟩:=u32_of w4
 refine ⟨a0,a1,a2,a5,a6,⟨code,js,data,z,s,lx⟩,gr,?_,⟨hc,hjs,hdt,hn,hz,hst⟩,hgr⟩
 congr 1
 exact Array.toList_inj.1 (by rw [← hL])
theorem open_wds {r:Reach} {b0:Nat} {v:Value} {d:DataW H} {p:List MemPlace} (hv:Value.okWide Tryz.prog w r b0 23 v) (h:DataW.Trod enc Tryz.prog w base (fun _=>true) true 23 v d p):∃ l:List Nat,Words w v l:=by
 obtain ⟨fuel,hf⟩:=h
 obtain ⟨a,n,c,rfl⟩:=okWide_slice Tryz.underlying23 hv
 exact open_words3 hf
theorem open_reps {r:Reach} {b0:Nat} {v:Value} {d:DataW H} {p:List MemPlace} (hv:Value.okWide Tryz.prog w r b0 32 v) (h:DataW.Trod enc Tryz.prog w base (fun _=>true) true 32 v d p):∃ rs:List Rep,RepsAt w v rs:=by
 obtain ⟨fuel,hf⟩:=h
 obtain ⟨a,n,c,rfl⟩:=okWide_slice Tryz.underlying32 hv
 exact open_replies2 hf
end
end Go.Proofs.YtdffaepbkecoeaaGreat
