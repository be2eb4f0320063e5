import Derived.Test.YtdffaepbkecoeaaGreatC6
set_option maxRecDepth 100000
set_option maxHeartbeats 8000000
namespace Go.Proofs.YtdffaepbkecoeaaGreat
open Go.RowKit
set_option linter.unusedVariables false
set_option linter.unusedSimpArgs false
section
variable {w0 w:World} {b:Nat} {K:MacK} {s:St} {vo:Value} {R:MacR} {M:MemK} {vt:Value} {lg:List (Nat×Bool)} {gr:List (Nat×Int)} {mb:Nat} {m:Img} {reps:List Rep}
theorem held4 (W:World) {p q:Nat} {a b c d:Value} {row:Array Value} (h:(W.cell? ⟨p,0,none⟩=some a∧W.cell? ⟨p,1,none⟩=some b)∧(W.cell? ⟨p,2,none⟩=some c∧W.cell? ⟨p,3,none⟩=some d)) (hn:p≠q):((W.setRow q row).cell? ⟨p,0,none⟩=some a∧(W.setRow q row).cell? ⟨p,1,none⟩=some b)∧((W.setRow q row).cell? ⟨p,2,none⟩=some c∧(W.setRow q row).cell? ⟨p,3,none⟩=some d):=by
 have e:∀j,(W.setRow q row).cell? ⟨p,j,none⟩=W.cell? ⟨p,j,none⟩:=fun j=>by unfold World.cell?;rw[setRow_other _ _ _ _ hn]
 rw[e,e,e,e];exact h
theorem build64z (w:World):(Instr.build 44 #[]).run Tryz.prog w=.ok (.agg #[.int .u8 0,.int .u32 0,.int .u32 0,.int .u8 0,.int .i64 0,.int .i64 0,.slice none 0 0,.int .u32 0,.int .u32 0,.slice none 0 0,.int .u32 0]) w:=by kernel_rfl
def GoBad (err:Int) (w:World) (e:Ending) (w':World):Prop:=
 e=.returned (.tuple #[.agg #[.int .u8 0,.int .u32 0,.int .u32 0,.int .u8 0,.int .i64 0,.int .i64 0,.slice none 0 0,.int .u32 0,.int .u32 0,.slice none 0 0,.int .u32 0],.int .i64 err])∧Below w.heap.size w w'
theorem go_fuel (H:Rdy w0 w b K s vo R M vt lg gr mb m) {fuel:Int} {pa:Option Addr} {pn pc:Nat} (hf:fuel<0∨65536<fuel) :
 Calls Tryz.prog 9 #[.pointer (some ⟨b,0,none⟩),.int .i64 fuel,.slice pa pn pc] w (GoBad 4 w):=by
 have hmx:Tryz.prog.follows .mixedOrders=true:=by kernel_rfl
 have hmf:∀(fn:Fn) (first cap:Array Value) (w:World),(Instr.makeFunc fn first cap).run Tryz.prog w=.ok (.func fn first cap) w:=fun _ _ _ _=>rfl;have hz:=zero64;have hbc:=build64z;obtain⟨W1,hW1⟩:∃W1,W1=((w.alloc (.cells #[.pointer (some ⟨b,0,none⟩)] 35)).alloc (.cells #[.slice pa pn pc] 32)).alloc (.cells #[.int .u8 0,.int .u32 0,.int .u32 0,.int .u8 0,.int .i64 0,.int .i64 0,.slice none 0 0,.int .u32 0,.int .u32 0,.slice none 0 0,.int .u32 0] 44):=⟨_,rfl⟩;have hb1:Below w.heap.size w W1:=by rw[hW1];exact Bel.tr (Bel.tr (Bel.new _ _) (Bel.new _ _)) (Bel.new _ _)
 have h3:W1.heap[w.heap.size]?=some (.cells #[.pointer (some ⟨b,0,none⟩)] 35 (0,0)):=by rw[hW1];exact((Bel.new ((w.alloc _).alloc _) _).block w.heap.size (by simp only[World.size_alloc];omega)).trans (((Bel.new (w.alloc _) _).block w.heap.size (by simp only[World.size_alloc];omega)).trans (heap_alloc_new w _))
 have hP:W1.heap[w.heap.size+1]?=some (.cells #[.slice pa pn pc] 32 (0,0)):=by
  rw[hW1];have:=(Bel.new ((w.alloc (.cells #[.pointer (some ⟨b,0,none⟩)] 35)).alloc (.cells #[.slice pa pn pc] 32)) (.cells #[.int .u8 0,.int .u32 0,.int .u32 0,.int .u8 0,.int .i64 0,.int .i64 0,.slice none 0 0,.int .u32 0,.int .u32 0,.slice none 0 0,.int .u32 0] 44)).block (w.heap.size+1) (by simp only[World.size_alloc];omega);refine this.trans ?_;have h2:=heap_alloc_new (w.alloc (.cells #[.pointer (some ⟨b,0,none⟩)] 35)) (.cells #[.slice pa pn pc] 32);rw[World.size_alloc]at h2;exact h2
 have hR:W1.heap[w.heap.size+1+1]?=some (.cells #[.int .u8 0,.int .u32 0,.int .u32 0,.int .u8 0,.int .i64 0,.int .i64 0,.slice none 0 0,.int .u32 0,.int .u32 0,.slice none 0 0,.int .u32 0] 44 (0,0)):=by
  rw[hW1];have h2:=heap_alloc_new ((w.alloc (.cells #[.pointer (some ⟨b,0,none⟩)] 35)).alloc (.cells #[.slice pa pn pc] 32)) (.cells #[.int .u8 0,.int .u32 0,.int .u32 0,.int .u8 0,.int .i64 0,.int .i64 0,.slice none 0 0,.int .u32 0,.int .u32 0,.slice none 0 0,.int .u32 0] 44);rw[World.size_alloc,World.size_alloc]at h2;exact h2
 have HMade:=Lib.hid (fun W (hW:Below w.heap.size w W)=>mmade_any (H.x.below hW).m.o.m H.st.md);have k3:=cell_of_row W1 w.heap.size 0 _ _ _ h3;have kP:=cell_of_row W1 (w.heap.size+1) 0 _ _ _ hP;have k66:=(H.x.below hb1).m.o.m.cells.c66;simp only[macV]at k66;have HB1:=Lib.hid hb1;have HR:=Lib.hid hR;clear hb1 H h3 hP k66 hR
 go_enter_defers Tryz.func9,Tryz.ntmps9
 go_wp2_with fail;rw[←hW1];clear hW1;refine(HMade.out W1 HB1.out).mono ?_;rintro e w1⟨rfl,rfl⟩;rcases hf with hf|hf
 ·go_wp2_with((with_reducible refine wpList_store_row (o:=⟨none,.store 44 (.tmp 6) (.tmp 23),_,_,_,none⟩) rfl 44 _ _ rfl (w.heap.size+1+1) #[.int .u8 0,.int .u32 0,.int .u32 0,.int .u8 0,.int .i64 0,.int .i64 0,.slice none 0 0,.int .u32 0,.int .u32 0,.slice none 0 0,.int .u32 0] ?_ ?_ 44 _ HR.out ?_ ?_ ?_ ?_);rfl;rfl;exact info64;rfl;(simp[Value.oneCell']))
  refine⟨_,results_cell_tmp Tryz.results9 _ _ (w.heap.size+1+1) 44 _ (0,0) _ rfl (setRow_heap _ _ _ _ _ _ HR.out) Tryz.underlying44 rfl (size64 _ _ _ _ _ _ _ _ _ _ _) _ rfl,?_⟩;exact⟨rfl,below_setRow HB1.out _ (by omega) _⟩
 ·have hf0:¬fuel<0:=by omega
  go_wp2_with((with_reducible refine wpList_store_row (o:=⟨none,.store 44 (.tmp 6) (.tmp 23),_,_,_,none⟩) rfl 44 _ _ rfl (w.heap.size+1+1) #[.int .u8 0,.int .u32 0,.int .u32 0,.int .u8 0,.int .i64 0,.int .i64 0,.slice none 0 0,.int .u32 0,.int .u32 0,.slice none 0 0,.int .u32 0] ?_ ?_ 44 _ HR.out ?_ ?_ ?_ ?_);rfl;rfl;exact info64;rfl;(simp[Value.oneCell']))
  refine⟨_,results_cell_tmp Tryz.results9 _ _ (w.heap.size+1+1) 44 _ (0,0) _ rfl (setRow_heap _ _ _ _ _ _ HR.out) Tryz.underlying44 rfl (size64 _ _ _ _ _ _ _ _ _ _ _) _ rfl,?_⟩;exact⟨rfl,below_setRow HB1.out _ (by omega) _⟩
theorem go_reply (H:Rdy w0 w b K s vo R M vt lg gr mb m) {fuel:Int} {pa:Option Addr} {pn pc:Nat} (hf:0≤fuel) (hf2:fuel≤65536) (hr:RepsAt w (.slice pa pn pc) reps) (hrf:repsFit reps=false) :
 Calls Tryz.prog 9 #[.pointer (some ⟨b,0,none⟩),.int .i64 fuel,.slice pa pn pc] w (GoBad 5 w):=by
 have hmx:Tryz.prog.follows .mixedOrders=true:=by kernel_rfl
 have hmf:∀(fn:Fn) (first cap:Array Value) (w:World),(Instr.makeFunc fn first cap).run Tryz.prog w=.ok (.func fn first cap) w:=fun _ _ _ _=>rfl;have hz:=zero64;have hbc:=build64z;obtain⟨W1,hW1⟩:∃W1,W1=((w.alloc (.cells #[.pointer (some ⟨b,0,none⟩)] 35)).alloc (.cells #[.slice pa pn pc] 32)).alloc (.cells #[.int .u8 0,.int .u32 0,.int .u32 0,.int .u8 0,.int .i64 0,.int .i64 0,.slice none 0 0,.int .u32 0,.int .u32 0,.slice none 0 0,.int .u32 0] 44):=⟨_,rfl⟩;have hb1:Below w.heap.size w W1:=by rw[hW1];exact Bel.tr (Bel.tr (Bel.new _ _) (Bel.new _ _)) (Bel.new _ _)
 have h3:W1.heap[w.heap.size]?=some (.cells #[.pointer (some ⟨b,0,none⟩)] 35 (0,0)):=by rw[hW1];exact((Bel.new ((w.alloc _).alloc _) _).block w.heap.size (by simp only[World.size_alloc];omega)).trans (((Bel.new (w.alloc _) _).block w.heap.size (by simp only[World.size_alloc];omega)).trans (heap_alloc_new w _))
 have hP:W1.heap[w.heap.size+1]?=some (.cells #[.slice pa pn pc] 32 (0,0)):=by
  rw[hW1];have:=(Bel.new ((w.alloc (.cells #[.pointer (some ⟨b,0,none⟩)] 35)).alloc (.cells #[.slice pa pn pc] 32)) (.cells #[.int .u8 0,.int .u32 0,.int .u32 0,.int .u8 0,.int .i64 0,.int .i64 0,.slice none 0 0,.int .u32 0,.int .u32 0,.slice none 0 0,.int .u32 0] 44)).block (w.heap.size+1) (by simp only[World.size_alloc];omega);refine this.trans ?_;have h2:=heap_alloc_new (w.alloc (.cells #[.pointer (some ⟨b,0,none⟩)] 35)) (.cells #[.slice pa pn pc] 32);rw[World.size_alloc]at h2;exact h2
 have hR:W1.heap[w.heap.size+1+1]?=some (.cells #[.int .u8 0,.int .u32 0,.int .u32 0,.int .u8 0,.int .i64 0,.int .i64 0,.slice none 0 0,.int .u32 0,.int .u32 0,.slice none 0 0,.int .u32 0] 44 (0,0)):=by
  rw[hW1];have h2:=heap_alloc_new ((w.alloc (.cells #[.pointer (some ⟨b,0,none⟩)] 35)).alloc (.cells #[.slice pa pn pc] 32)) (.cells #[.int .u8 0,.int .u32 0,.int .u32 0,.int .u8 0,.int .i64 0,.int .i64 0,.slice none 0 0,.int .u32 0,.int .u32 0,.slice none 0 0,.int .u32 0] 44);rw[World.size_alloc,World.size_alloc]at h2;exact h2
 have HMade:=Lib.hid (fun W (hW:Below w.heap.size w W)=>mmade_any (H.x.below hW).m.o.m H.st.md);have k3:=cell_of_row W1 w.heap.size 0 _ _ _ h3;have kP:=cell_of_row W1 (w.heap.size+1) 0 _ _ _ hP;have k66:=(H.x.below hb1).m.o.m.cells.c66;simp only[macV]at k66;have HB1:=Lib.hid hb1;have HR:=Lib.hid hR;have HC:=Lib.hid (containsrep_any (hr.below hb1));rw[hrf]at HC;clear hb1 H h3 hP k66 hR hr hrf
 go_enter_defers Tryz.func9,Tryz.ntmps9
 have hf0:¬fuel<0:=by omega
 have hf1:¬65536<fuel:=by omega
 go_wp2_with fail;rw[←hW1];clear hW1;refine(HMade.out W1 HB1.out).mono ?_;rintro e w1⟨rfl,rfl⟩;go_wp2_with fail;refine HC.out.mono ?_;rintro e w2⟨rfl,hb2⟩;have HR2:=Lib.hid ((hb2.block _ (Array.getElem?_eq_some_iff.1 HR.out).1).trans HR.out);have HB2:=Lib.hid (Bel.tr HB1.out hb2);clear hb2
 go_wp2_with((with_reducible refine wpList_store_row (o:=⟨none,.store 44 (.tmp 6) (.tmp 26),_,_,_,none⟩) rfl 44 _ _ rfl (w.heap.size+1+1) #[.int .u8 0,.int .u32 0,.int .u32 0,.int .u8 0,.int .i64 0,.int .i64 0,.slice none 0 0,.int .u32 0,.int .u32 0,.slice none 0 0,.int .u32 0] ?_ ?_ 44 _ HR2.out ?_ ?_ ?_ ?_);rfl;rfl;exact info64;rfl;(simp[Value.oneCell']))
 refine⟨_,results_cell_tmp Tryz.results9 _ _ (w.heap.size+1+1) 44 _ (0,0) _ rfl (setRow_heap _ _ _ _ _ _ HR2.out) Tryz.underlying44 rfl (size64 _ _ _ _ _ _ _ _ _ _ _) _ rfl,?_⟩;exact⟨rfl,below_setRow HB2.out _ (by omega) _⟩
theorem go_any (H:Rdy w0 w b K s vo R M vt lg gr mb m) {fu:Nat} {pa:Option Addr} {pn pc:Nat} (hf2:fu≤65536) (hr:RepsS w (allF b vo R M vt) (.slice pa pn pc) reps) (hrf:repsFit reps=true) :
 Calls Tryz.prog 9 #[.pointer (some ⟨b,0,none⟩),.int .i64 fu,.slice pa pn pc] w (GoOut w0 b K s vo R M vt lg gr mb m fu reps w):=by
 have hmx:Tryz.prog.follows .mixedOrders=true:=by kernel_rfl
 have hmf:∀(fn:Fn) (first cap:Array Value) (w:World),(Instr.makeFunc fn first cap).run Tryz.prog w=.ok (.func fn first cap) w:=fun _ _ _ _=>rfl;have hz:=zero64;have hbc:=build64z;obtain⟨W1,hW1⟩:∃W1,W1=((w.alloc (.cells #[.pointer (some ⟨b,0,none⟩)] 35)).alloc (.cells #[.slice pa pn pc] 32)).alloc (.cells #[.int .u8 0,.int .u32 0,.int .u32 0,.int .u8 0,.int .i64 0,.int .i64 0,.slice none 0 0,.int .u32 0,.int .u32 0,.slice none 0 0,.int .u32 0] 44):=⟨_,rfl⟩;have hb1:Below w.heap.size w W1:=by rw[hW1];exact Bel.tr (Bel.tr (Bel.new _ _) (Bel.new _ _)) (Bel.new _ _)
 have h3:W1.heap[w.heap.size]?=some (.cells #[.pointer (some ⟨b,0,none⟩)] 35 (0,0)):=by rw[hW1];exact((Bel.new ((w.alloc _).alloc _) _).block w.heap.size (by simp only[World.size_alloc];omega)).trans (((Bel.new (w.alloc _) _).block w.heap.size (by simp only[World.size_alloc];omega)).trans (heap_alloc_new w _))
 have hP:W1.heap[w.heap.size+1]?=some (.cells #[.slice pa pn pc] 32 (0,0)):=by
  rw[hW1];have:=(Bel.new ((w.alloc (.cells #[.pointer (some ⟨b,0,none⟩)] 35)).alloc (.cells #[.slice pa pn pc] 32)) (.cells #[.int .u8 0,.int .u32 0,.int .u32 0,.int .u8 0,.int .i64 0,.int .i64 0,.slice none 0 0,.int .u32 0,.int .u32 0,.slice none 0 0,.int .u32 0] 44)).block (w.heap.size+1) (by simp only[World.size_alloc];omega);refine this.trans ?_;have h2:=heap_alloc_new (w.alloc (.cells #[.pointer (some ⟨b,0,none⟩)] 35)) (.cells #[.slice pa pn pc] 32);rw[World.size_alloc]at h2;exact h2
 have hR:W1.heap[w.heap.size+1+1]?=some (.cells #[.int .u8 0,.int .u32 0,.int .u32 0,.int .u8 0,.int .i64 0,.int .i64 0,.slice none 0 0,.int .u32 0,.int .u32 0,.slice none 0 0,.int .u32 0] 44 (0,0)):=by
  rw[hW1];have h2:=heap_alloc_new ((w.alloc (.cells #[.pointer (some ⟨b,0,none⟩)] 35)).alloc (.cells #[.slice pa pn pc] 32)) (.cells #[.int .u8 0,.int .u32 0,.int .u32 0,.int .u8 0,.int .i64 0,.int .i64 0,.slice none 0 0,.int .u32 0,.int .u32 0,.slice none 0 0,.int .u32 0] 44);rw[World.size_alloc,World.size_alloc]at h2;exact h2
 have HMade:=Lib.hid (fun W (hW:Below w.heap.size w W)=>mmade_any (H.x.below hW).m.o.m H.st.md);have k3:=cell_of_row W1 w.heap.size 0 _ _ _ h3;have kP:=cell_of_row W1 (w.heap.size+1) 0 _ _ _ hP;have k66:=(H.x.below hb1).m.o.m.cells.c66;simp only[macV]at k66;have HB1:=Lib.hid hb1;have HRb:=Lib.hid hR;have HC:=Lib.hid (containsrep_any (hr.at_.below hb1));have HRF:=Lib.hid hrf;rw[hrf]at HC;have HH:=Lib.hid H;have HRS:=Lib.hid (hr.fr (Fr.of hb1 _));have HPN:Hid (pn=reps.length∧pn≤maxLen):=Lib.hid (by obtain⟨a,cap,e,h1,h2,-⟩:=hr;cases e;exact⟨rfl,by omega⟩);have H3b:=Lib.hid h3;have HPb:=Lib.hid hP;clear hb1 H h3 hP k66 hR hr hrf
 go_enter_defers Tryz.func9,Tryz.ntmps9
 have hf0:¬(fu:Int)<0:=by omega
 have hf1:¬65536<(fu:Int):=by omega
 go_wp2_with fail;rw[←hW1];clear hW1;refine(HMade.out W1 HB1.out).mono ?_;rintro e w1⟨rfl,rfl⟩;go_wp2_with fail;refine HC.out.mono ?_;rintro e w2⟨rfl,hb2⟩;have hB2:=Bel.tr HB1.out hb2;have hx2:=HH.out.x.below hB2;have k66:=hx2.m.o.m.cells.c66;simp only[macV]at k66;have hR2:=(hb2.block _ (Array.getElem?_eq_some_iff.1 HRb.out).1).trans HRb.out;have h32:=(hb2.block _ (Array.getElem?_eq_some_iff.1 H3b.out).1).trans H3b.out;have hP2:=(hb2.block _ (Array.getElem?_eq_some_iff.1 HPb.out).1).trans HPb.out;have k3:=cell_of_row w2 w.heap.size 0 _ _ _ h32;have kP:=cell_of_row w2 (w.heap.size+1) 0 _ _ _ hP2;have hS2:=HRS.out.fr (Fr.of hb2 _);have HRs:=Lib.hid (fun W (hW:Below w2.heap.size w2 W)=>mrest_any (hx2.below hW).m.o.m);have HR2:=Lib.hid hR2;have H32:=Lib.hid h32;have HP2:=Lib.hid hP2;have HX2:=Lib.hid hx2;have HS2:=Lib.hid hS2;have HB2:=Lib.hid hB2;clear hb2 hB2 hx2 hR2 h32 hP2 hS2 HMade HB1 HRb HC HRS H3b HPb;by_cases hl:s.life=1
 ·rw[hl]at k66
  go_wp2_with fail;obtain⟨q3,hq3⟩:∃q,q=w.heap.size:=⟨_,rfl⟩;obtain⟨qP,hqP⟩:∃q,q=w.heap.size+1:=⟨_,rfl⟩;obtain⟨qR,hqR⟩:∃q,q=w.heap.size+1+1:=⟨_,rfl⟩;rw[←hqR]at HR2⊢;rw[←hqP]at HP2 kP⊢;rw[←hq3]at H32 k3⊢;have HQ:=Lib.hid (And.intro hq3 (And.intro hqP hqR));clear hq3 hqP hqR;have hH0:(w2.drew.cell? ⟨q3,0,none⟩=some (.pointer (some ⟨b,0,none⟩))∧w2.drew.cell? ⟨qP,0,none⟩=some (.slice pa pn pc)):=⟨k3,kP⟩;refine wp_region_noPanic ?_;refine wp_region_held_drew (S:=fun W=>(W.cell? ⟨q3,0,none⟩=some (.pointer (some ⟨b,0,none⟩))∧W.cell? ⟨qP,0,none⟩=some (.slice pa pn pc))) hmx hH0 (fun hHeld=>?_);refine tk 0 hHeld ?_;refine tk 1 hHeld ?_;refine tk 2 hHeld ?_;refine tk 3 hHeld ?_;refine tk 4 hHeld ?_;refine rd 5 ⟨none,.store 32 (.tmp 38) (.tmp 36),_,_,_,none⟩ fun K hK=>?_;rw[if_pos (by rfl)];have x0:=HX2.out.below (Below.refl _ _).drew;refine outs_wp (R:=fun v W'=>v=undef∧W'=w2.drew.setCell ⟨b,74,none⟩ (.slice pa pn pc)) (outs_store_at 32 (.tmp 38) (.tmp 36) rfl b 74 _ rfl rfl _ x0.m.o.m.c74 (x0.m.o.m.cells.fz 74) tinfo53 rfl ⟨rfl,rfl⟩) ?_;rintro _ _⟨rfl,rfl⟩;have x1:=x0.setReplies (.slice pa pn pc);have f1:Fr w2.drew (w2.drew.setCell ⟨b,74,none⟩ (.slice pa pn pc)) (allF b vo R M vt) (allF b vo {R with replies:=.slice pa pn pc} M vt):=Fr.setCell w2.drew (F:=allF b vo R M vt) (a:=⟨b,74,none⟩) (.inl (.inl (.inl rfl))) _;obtain⟨X1,hX1⟩:∃X,X=w2.drew.setCell ⟨b,74,none⟩ (.slice pa pn pc):=⟨_,rfl⟩;rw[←hX1]at x1 f1⊢;clear hX1;obtain⟨i1,i2,i3⟩:=HQ.out;have hfl:=HH.out.x.flt;have n3:¬allF b vo R M vt q3:=fun e=>by have:=hfl q3 e;omega
  have nP:¬allF b vo R M vt qP:=fun e=>by have:=hfl qP e;omega
  have nR:¬allF b vo R M vt qR:=fun e=>by have:=hfl qR e;omega
  have g3:=f1.row (H32.out:w2.drew.heap[q3]?=_) n3;have gP:=f1.row (HP2.out:w2.drew.heap[qP]?=_) nP;have gR:=f1.row (HR2.out:w2.drew.heap[qR]?=_) nR;have hH1:(X1.cell? ⟨q3,0,none⟩=some (.pointer (some ⟨b,0,none⟩))∧X1.cell? ⟨qP,0,none⟩=some (.slice pa pn pc)):=⟨cell_of_row X1 q3 0 _ _ _ g3,cell_of_row X1 qP 0 _ _ _ gP⟩;clear i1 i2 i3;refine hK.out _ _ hH1 (fun _=>?_);clear hK K
  try simp only[Act.put,aT,aZ,aS]
  refine tk 6 hH1 ?_;refine tk 7 hH1 ?_;refine rd 8 ⟨none,.store 40 (.tmp 40) (.const (.slice none 0 0)),_,_,_,none⟩ fun K hK=>?_;rw[if_pos (by rfl)];refine outs_wp (R:=fun v W'=>v=undef∧W'=X1.setCell ⟨b,75,none⟩ (.slice none 0 0)) (outs_store_at 40 (.tmp 40) (.const (.slice none 0 0)) rfl b 75 _ rfl rfl _ x1.m.o.m.c75 (x1.m.o.m.cells.fz 75) tinfo60 rfl ⟨rfl,rfl⟩) ?_;rintro _ _⟨rfl,rfl⟩;have x2:=setNoEvents x1 HH.out.en;have f2:Fr X1 (X1.setCell ⟨b,75,none⟩ (.slice none 0 0)) (allF b vo {R with replies:=.slice pa pn pc} M vt) (allF b vo {R with replies:=.slice pa pn pc} M vt):=Fr.setCell X1 (F:=allF b vo R M vt) (a:=⟨b,75,none⟩) (.inl (.inl (.inl rfl))) _;obtain⟨X2,hX2⟩:∃X,X=X1.setCell ⟨b,75,none⟩ (.slice none 0 0):=⟨_,rfl⟩;rw[←hX2]at x2 f2⊢;clear hX2;have g32:=f2.row g3 n3;have gP2:=f2.row gP nP;have gR2:=f2.row gR nR;have hH2:(X2.cell? ⟨q3,0,none⟩=some (.pointer (some ⟨b,0,none⟩))∧X2.cell? ⟨qP,0,none⟩=some (.slice pa pn pc)):=⟨cell_of_row X2 q3 0 _ _ _ g32,cell_of_row X2 qP 0 _ _ _ gP2⟩;refine hK.out _ _ hH2 (fun _=>?_);clear hK K
  try simp only[Act.put,aT,aZ,aS]
  refine wpAnyH_done (by kernel_rfl) ?_ _;refine NoPanic.normal ?_;have fX:=Lib.hid ((((Fr.of HB2.out _).drew).trans f1).trans f2);have xX:=Lib.hid x2;have G3:=Lib.hid g32;have GP:=Lib.hid gP2;have GR:=Lib.hid gR2;have N3:=Lib.hid (And.intro n3 (And.intro nP nR));have HS3:=Lib.hid ((HS2.out.fr (((Fr.refl w2 (allF b vo R M vt)).drew.trans f1).trans f2)));clear hHeld hH0 hH1 hH2 x0 x1 x2 f1 f2 g3 gP gR g32 gP2 gR2 n3 nP nR hfl k3 kP k66 HR2 H32 HP2 HX2 HS2 HRs;go_wp2_with fail;obtain⟨W,hW⟩:∃W,W=((X2.alloc (.cells #[.int .u8 3] 38)).alloc (.cells #[.int .i64 0] 3)).alloc (.cells #[.int .u32 0,.int .u32 0,.slice none 0 0,.int .u32 0] 42):=⟨_,rfl⟩;obtain⟨hE,hU,hA,hbW⟩:=alloc3_rows X2 (.cells #[.int .u8 3] 38) (.cells #[.int .i64 0] 3) (.cells #[.int .u32 0,.int .u32 0,.slice none 0 0,.int .u32 0] 42);rw[←hW]at hE hU hA hbW⊢;clear hW;obtain⟨qE,hqE⟩:∃q,q=X2.heap.size:=⟨_,rfl⟩;obtain⟨qU,hqU⟩:∃q,q=X2.heap.size+1:=⟨_,rfl⟩;obtain⟨qA,hqA⟩:∃q,q=X2.heap.size+1+1:=⟨_,rfl⟩;rw[←hqA,←hqU,←hqE];rw[←hqA]at hA;rw[←hqU]at hU;rw[←hqE]at hE;have g3:=(hbW.block _ (Array.getElem?_eq_some_iff.1 G3.out).1).trans G3.out;have gP:=(hbW.block _ (Array.getElem?_eq_some_iff.1 GP.out).1).trans GP.out;have gR:=(hbW.block _ (Array.getElem?_eq_some_iff.1 GR.out).1).trans GR.out;have l3:=(Array.getElem?_eq_some_iff.1 G3.out).1;have lP:=(Array.getElem?_eq_some_iff.1 GP.out).1;have lR:=(Array.getElem?_eq_some_iff.1 GR.out).1;have hfl:=xX.out.flt;obtain⟨F0,hF0⟩:∃F0:Nat→Prop,F0=allF b vo {R with replies:=.slice pa pn pc} M vt:=⟨_,rfl⟩
  have hn0:¬F0 qE∧¬F0 qU∧¬F0 qA:=by
   rw[hF0];exact⟨fun e=>by have:=hfl qE e;omega,fun e=>by have:=hfl qU e;omega,fun e=>by have:=hfl qA e;omega⟩
  have hn3:¬F0 q3∧¬F0 qP∧¬F0 qR:=by rw[hF0];exact N3.out
  obtain⟨i1,i2,i3⟩:=HQ.out;have HN:=Lib.hid (And.intro hn0 hn3);have HD:Hid ((qE≠qR∧q3≠qR∧qA≠qR∧qU≠qR∧qP≠qR)∧(qE≠qU∧q3≠qU∧qA≠qU∧qP≠qU∧qE≠qA∧qP≠qE∧qP≠qA∧q3≠qE∧q3≠qA)∧w.heap.size≤qR∧w.heap.size≤qU):=Lib.hid (by have:=fX.out.size;omega);have HD2:Hid (w.heap.size≤qE∧w.heap.size≤qA):=Lib.hid (by have:=fX.out.size;omega);have HRow:=Lib.hid (And.intro hE (And.intro hA (And.intro g3 (And.intro gP gR))));have HFX:=Lib.hid (fX.out.trans (Fr.of hbW _));rw[←hF0]at HFX;obtain⟨gg,hgg⟩:∃gg,gg=goM (moOf m) gr fu reps s:=⟨_,rfl⟩;have HGG:=Lib.hid hgg;have I0:GoI w0 W b K M gr mb m F0 R.on lg fu reps.length gg qU W 0 s vo {R with replies:=.slice pa pn pc} vt [] reps [] lg:=⟨Nat.zero_le _,xX.out.below hbW,by rw[touL_nil _ HH.out.x.ll],HH.out.home.fr (fX.out.trans (Fr.of hbW _)),HH.out.wf,HH.out.fit,HS3.out.fr (Fr.of hbW _),Nat.le_refl _,rfl,Nat.le_refl _,HRF.out,by rw[hgg];exact(after_nil _).symm,by rw[←hF0];exact Fr.refl _ _,hU,by rw[←hF0];exact hn0.2.1⟩;have HI0:=Lib.hid I0;clear hE hU hA hbW hqE hqU hqA g3 gP gR l3 lP lR hfl hF0 hn0 hn3 i1 i2 i3 hgg I0
  try simp only[show decide ((fu:Int)<0)=false from decide_eq_false (by omega),show decide (65536<(fu:Int))=false from decide_eq_false (by omega),Bool.or_self]
  go_loopw[] (fun wr=>∃k s' vo' R' vt' evs' reps' t lg',GoI w0 W b K M gr mb m F0 R.on lg fu reps.length gg qU wr k s' vo' R' vt' evs' reps' t lg') (fun wr=>fu - (intOf ((wr.cell? ⟨qU,0,none⟩).getD undef)).toNat)
  case atStart=>exact⟨0,s,vo,_,vt,[],reps,[],lg,HI0.out⟩
  case round=>
   obtain⟨k,s',vo',R',vt',evs',reps',t,lg',I⟩:=hrel;clear HI0;have HI:=Lib.hid I;have r3:=I.fr.row HRow.out.2.2.1 (fun e=>e.elim HN.out.2.1 HD.out.2.1.2.1);have k3:=cell_of_row wr q3 0 _ _ _ r3;have k66:=I.x.m.o.m.cells.c66;simp only[macV]at k66;have hE:=I.fr.row HRow.out.1 (fun e=>e.elim HN.out.1.1 HD.out.2.1.1);have hA:=I.fr.row HRow.out.2.1 (fun e=>e.elim HN.out.1.2.2 HD.out.2.1.2.2.1);have hP:=I.fr.row HRow.out.2.2.2.1 (fun e=>e.elim HN.out.2.2.1 HD.out.2.1.2.2.2.1);have hR:=I.fr.row HRow.out.2.2.2.2 (fun e=>e.elim HN.out.2.2.2 (fun e=>HD.out.1.2.2.2.1 e.symm));have hU:=I.hU;have nR:¬allF b vo' R' M vt' qR:=fun e=>I.fr.notF (Array.getElem?_eq_some_iff.1 HRow.out.2.2.2.2).1 (fun e=>e.elim HN.out.2.2.2 (fun e=>HD.out.1.2.2.2.1 e.symm)) (.inl e);have nE:¬allF b vo' R' M vt' qE:=fun e=>I.fr.notF (Array.getElem?_eq_some_iff.1 HRow.out.1).1 (fun e=>e.elim HN.out.1.1 HD.out.2.1.1) (.inl e);have nA:¬allF b vo' R' M vt' qA:=fun e=>I.fr.notF (Array.getElem?_eq_some_iff.1 HRow.out.2.1).1 (fun e=>e.elim HN.out.1.2.2 HD.out.2.1.2.2.1) (.inl e);have n3:¬allF b vo' R' M vt' q3:=fun e=>I.fr.notF (Array.getElem?_eq_some_iff.1 HRow.out.2.2.1).1 (fun e=>e.elim HN.out.2.1 HD.out.2.1.2.1) (.inl e);have nP:¬allF b vo' R' M vt' qP:=fun e=>I.fr.notF (Array.getElem?_eq_some_iff.1 HRow.out.2.2.2.1).1 (fun e=>e.elim HN.out.2.2.1 HD.out.2.1.2.2.2.1) (.inl e);have fwr:Fr w wr (allF b vo R M vt) (allF b vo' R' M vt'):=((HFX.out.add (q:=qU)).trans I.fr).drop HD.out.2.2.2;have HRows:=Lib.hid (And.intro hE (And.intro hA (And.intro r3 (And.intro hP (And.intro hR hU)))));have HNs:=Lib.hid (And.intro nE (And.intro nA (And.intro n3 (And.intro nP nR))));have HFw:=Lib.hid fwr;clear r3 hE hA hP hR hU nR nE nA n3 nP fwr;by_cases hl:s'.life=1
   ·rw[hl]at k66
    have H':AH w0 wr b K s' vo' R' M vt' R'.on [] evs' lg' gr mb m reps':=⟨HH.out.st,I.x,I.home,I.wf,hl,I.fit,I.rep⟩;have HWt:=Lib.hid (waits_any H');have HAH:=Lib.hid H';clear I H';cases hw:waitsM (moOf m) gr reps' s' with
    | none=>
     rw[hw]at HWt;go_wp2_with fail;refine HWt.out.mono ?_;rintro e w9⟨vt9,x9,f9,y0,y1,y2,aa,na,ca,rfl⟩;have rows9:∀{q:Nat} {o:Obj},wr.heap[q]?=some o→¬allF b vo' R' M vt' q→∀X,Below w9.heap.size w9 X→X.heap[q]?=some o:=fun h hn X hX=>(hX.block _ (Array.getElem?_eq_some_iff.1 (f9.row h hn)).1).trans (f9.row h hn);have HR9:=Lib.hid (fun X hX=>rows9 HRows.out.1 HNs.out.1 X hX);have u9:=f9.row HRows.out.2.2.2.2.2 HI.out.nU;have lU:=(Array.getElem?_eq_some_iff.1 u9).1;have cU:=cell_of_row w9 qU 0 _ _ _ u9;have l3:=(Array.getElem?_eq_some_iff.1 (f9.row HRows.out.2.2.1 HNs.out.2.2.1)).1;have c3:=cell_of_row w9 q3 0 _ _ _ (f9.row HRows.out.2.2.1 HNs.out.2.2.1);have hkk:=HI.out.hk;have H9:=Lib.hid (fun X (hX:Below w9.heap.size w9 X)=>(⟨HH.out.st,x9.below hX,(HI.out.home.fr f9).fr (Fr.of hX _),HI.out.wf,hl,HI.out.fit,(HI.out.rep.fr f9).fr (Fr.of hX _)⟩:AH w0 X b K s' vo' R' M vt9 R'.on [] evs' lg' gr mb m reps'));have HX9:=Lib.hid x9;have HF9:=Lib.hid f9;have HR9s:=Lib.hid (And.intro (fun X hX=>rows9 HRows.out.2.1 HNs.out.2.1 X hX) (And.intro (fun X hX=>rows9 HRows.out.2.2.1 HNs.out.2.2.1 X hX) (And.intro (fun X hX=>rows9 HRows.out.2.2.2.1 HNs.out.2.2.2.1 X hX) (And.intro (fun X hX=>rows9 HRows.out.2.2.2.2.1 HNs.out.2.2.2.2 X hX) (fun X hX=>rows9 HRows.out.2.2.2.2.2 HI.out.nU X hX)))));clear rows9 x9 f9 u9 k3 k66;by_cases hkf:k=fu
     ·subst hkf
      go_wp2_with fail;refine go_door HH.out rfl rfl (HX9.out.below (Bel.new _ _)) ((HI.out.home.fr HF9.out).fr (Fr.of (Bel.new _ _) _)) HI.out.wf HI.out.fit ((HI.out.rep.fr HF9.out).fr (Fr.of (Bel.new _ _) _)) HI.out.on ((HFw.out.trans HF9.out).trans (Fr.of (Bel.new _ _) _)) (HR9.out _ (Bel.new _ _)) (HR9s.out.2.1 _ (Bel.new _ _)) (ask:=askZ) (va:=.slice none 0 0) (HR9s.out.1 _ (Bel.new _ _)) (World.ownsRow_nil _ _ _ _) (fun g e=>by cases e) (HR9s.out.2.2.2.1 _ (Bel.new _ _)) rfl (HR9s.out.2.2.2.2 _ (Bel.new _ _)) (HR9s.out.2.2.1 _ (Bel.new _ _)) HPN.out.1 HPN.out.2 HI.out.rl HD.out.1.1 HD.out.1.2.1 HD.out.1.2.2.1 HD.out.1.2.2.2.1 HD.out.1.2.2.2.2 (HF9.out.notF (Array.getElem?_eq_some_iff.1 HRows.out.2.2.2.2.1).1 HNs.out.2.2.2.2) HD.out.2.2.1 HGG.out ?_;rw[HI.out.goes,HI.out.lgq,Nat.sub_self];obtain⟨e1,e2,e3⟩:=res_zero (n:=reps.length) (gr:=gr) (k:=k) (reps':=reps') (t:=t) (e:=evs'.map (·.1)) (mo:=moOf m) hl hw;exact⟨e1,e2,by rw[e3]⟩
     ·have hkf2:¬(k:Int)=(fu:Int):=by omega
      have wk:IntKind.i64.wrap ((k:Int)+1)=(k:Int)+1:=IntWalk.i64_in _ (by omega);have HTk:=Lib.hid (fun X hX=>mtake_any (H9.out X hX) HI.out.rf (by have:=HI.out.evl;omega) hw);go_wp2_with fail;obtain⟨X,hX⟩:∃X,X=w9.alloc (.cells #[.int .u32 y0,.int .u32 y1,.slice aa na ca,.int .u32 y2] 42):=⟨_,rfl⟩;have hbX:Below w9.heap.size w9 X:=(by rw[hX];exact Bel.new _ _);rw[←hX];clear hX;refine(HTk.out X hbX).mono ?_;rintro e w10⟨rfl,vo2,vt2,R2,evs2,x10,hev2,hrep2,hon2,f10⟩;have fT:=(HF9.out.trans (Fr.of hbX _)).trans f10;have I2:=HI.out.next HH.out.st hl hw hkf (by have:=HH.out.home.b.size;have:=HD.out.2.2.2;omega) HAH.out x10 hev2 hrep2 hon2 fT
      have hU10:=fT.row HRows.out.2.2.2.2.2 HI.out.nU;have cU10:=cell_of_row w10 qU 0 _ _ _ hU10;have zU10:=frozen_of_row w10 qU 0 _ _ hU10;have HI2:=Lib.hid I2;have HC1:=Lib.hid (cell_of_row wr qU 0 _ _ _ HRows.out.2.2.2.2.2);have HC2:=Lib.hid (cell_of_row _ qU 0 _ _ _ I2.hU);clear fT I2 hU10 x10 hev2 hrep2 hon2 f10 hbX cU c3 lU l3;go_wp2_with fail
      go_roundw
      case rel=>exact⟨k+1,_,vo2,R2,vt2,evs2,_,_,_,HI2.out⟩
      case measure=>
       have h1:wr.cell? ⟨qU,0,none⟩=some (.int .i64 (k:Int)):=HC1.out;have h2:(w10.setCell ⟨qU,0,none⟩ (.int .i64 ((k:Int)+1))).cell? ⟨qU,0,none⟩=some (.int .i64 ((k:Int)+1)):=HC2.out;rw[h1,h2];simp[intOf];omega
    | some ev=>
     rw[hw]at HWt;go_wp2_with fail;refine HWt.out.mono ?_;rintro e w9⟨vt9,x9,f9,aa,ca,rfl,hown⟩;have hr0:=waitsM_nil hw;subst hr0;have rows9:∀{q:Nat} {o:Obj},wr.heap[q]?=some o→¬allF b vo' R' M vt' q→∀X,Below w9.heap.size w9 X→X.heap[q]?=some o:=fun h hn X hX=>(hX.block _ (Array.getElem?_eq_some_iff.1 (f9.row h hn)).1).trans (f9.row h hn);obtain⟨wa,hwa⟩:∃X,X=w9.alloc (.cells #[.int .u32 ev.at_,.int .u32 ev.num,.slice aa ev.args.length ca,.int .u32 0] 42):=⟨_,rfl⟩;have hba:Below w9.heap.size w9 wa.drew:=(by rw[hwa];exact(Bel.new _ _).drew);have hq11:wa.heap[w9.heap.size]?=some (.cells #[.int .u32 ev.at_,.int .u32 ev.num,.slice aa ev.args.length ca,.int .u32 0] 42 (0,0)):=(by rw[hwa];exact heap_alloc_new _ _);have aE:=rows9 HRows.out.1 HNs.out.1 _ hba;have aA:=rows9 HRows.out.2.1 HNs.out.2.1 _ hba;have a3:=rows9 HRows.out.2.2.1 HNs.out.2.2.1 _ hba;have aP:=rows9 HRows.out.2.2.2.1 HNs.out.2.2.2.1 _ hba;have aR:=rows9 HRows.out.2.2.2.2.1 HNs.out.2.2.2.2 _ hba;have aU:=rows9 HRows.out.2.2.2.2.2 HI.out.nU _ hba;have nE9:=f9.notF (Array.getElem?_eq_some_iff.1 HRows.out.1).1 HNs.out.1;have nA9:=f9.notF (Array.getElem?_eq_some_iff.1 HRows.out.2.1).1 HNs.out.2.1;have nR9:=f9.notF (Array.getElem?_eq_some_iff.1 HRows.out.2.2.2.2.1).1 HNs.out.2.2.2.2;have hE11:w9.heap.size≠qE:=fun e=>(by have:=(Array.getElem?_eq_some_iff.1 (f9.row HRows.out.1 HNs.out.1)).1;omega);have HXA:=Lib.hid (show w9.heap.size≠qA from fun e=>by have:=(Array.getElem?_eq_some_iff.1 (f9.row HRows.out.2.1 HNs.out.2.1)).1;omega);have hvo:=HI.out.x.newRow hown x9.m.mem.tr;have ob:=own_fr (own_base (own_below hown hba)) (Fr.setRow wa.drew qE #[.int .u8 4]) (fun g hg e=>not_row_of (own_base (own_below hown hba)) aE (by decide) (by rw[←e];exact hg));have bA:=(Fr.setRow wa.drew qE #[.int .u8 4]).row aA (fun e=>HD.out.2.1.2.2.2.2.1 e.symm);have oc:=own_fr ob (Fr.setRow (wa.drew.setRow qE #[.int .u8 4]) qA #[.int .u32 ev.at_,.int .u32 ev.num,.slice aa ev.args.length ca,.int .u32 0]) (fun g hg e=>not_row_of ob bA (by decide) (by rw[←e];exact hg));have xb:=(x9.below hba).box aE (by decide) nE9 (Fr.setRow wa.drew qE #[.int .u8 4]);have xc:=xb.box bA (by decide) nA9 (Fr.setRow (wa.drew.setRow qE #[.int .u8 4]) qA #[.int .u32 ev.at_,.int .u32 ev.num,.slice aa ev.args.length ca,.int .u32 0]);have hw0:w0.heap.size≤w.heap.size:=HH.out.home.b.size;have hoc:=(((HI.out.home.fr f9).fr (Fr.of hba _)).box (Fr.setRow wa.drew qE #[.int .u8 4]) (Nat.le_trans hw0 HD2.out.1)).box (Fr.setRow (wa.drew.setRow qE #[.int .u8 4]) qA #[.int .u32 ev.at_,.int .u32 ev.num,.slice aa ev.args.length ca,.int .u32 0]) (Nat.le_trans hw0 HD2.out.2);have frc:=((((HFw.out.trans f9).trans (Fr.of hba _)).box (Fr.setRow wa.drew qE #[.int .u8 4]) HD2.out.1)).box (Fr.setRow (wa.drew.setRow qE #[.int .u8 4]) qA #[.int .u32 ev.at_,.int .u32 ev.num,.slice aa ev.args.length ca,.int .u32 0]) HD2.out.2;have st:∀{q:Nat} {o:Obj},wa.drew.heap[q]?=some o→q≠qE→q≠qA→((wa.drew.setRow qE #[.int .u8 4]).setRow qA #[.int .u32 ev.at_,.int .u32 ev.num,.slice aa ev.args.length ca,.int .u32 0]).heap[q]?=some o:=fun h h1 h2=>(setRow_other _ _ _ _ h2).trans ((setRow_other _ _ _ _ h1).trans h);have cE:((wa.drew.setRow qE #[.int .u8 4]).setRow qA #[.int .u32 ev.at_,.int .u32 ev.num,.slice aa ev.args.length ca,.int .u32 0]).heap[qE]?=some (.cells #[.int .u8 4] 38 (0,0)):=(setRow_other _ _ _ _ HD.out.2.1.2.2.2.2.1).trans (setRow_heap _ _ _ _ _ _ aE)
     have cA:((wa.drew.setRow qE #[.int .u8 4]).setRow qA #[.int .u32 ev.at_,.int .u32 ev.num,.slice aa ev.args.length ca,.int .u32 0]).heap[qA]?=some (.cells #[.int .u32 ev.at_,.int .u32 ev.num,.slice aa ev.args.length ca,.int .u32 ev.val] 42 (0,0)):=by
      rw[waitsM_val hw];exact setRow_heap _ _ _ _ _ _ bA
     have HRc:=Lib.hid (And.intro cE (And.intro cA (And.intro (st a3 HD.out.2.1.2.2.2.2.2.2.2.1 HD.out.2.1.2.2.2.2.2.2.2.2) (And.intro (st aP HD.out.2.1.2.2.2.2.2.1 HD.out.2.1.2.2.2.2.2.2.1) (And.intro (st aR (fun e=>HD.out.1.1 e.symm) (fun e=>HD.out.1.2.2.1 e.symm)) (st aU (fun e=>HD.out.2.1.1 e.symm) (fun e=>HD.out.2.1.2.2.1 e.symm)))))));have HXc:=Lib.hid xc;have HHc:=Lib.hid hoc;have HFc:=Lib.hid frc;have HOc:=Lib.hid (And.intro oc (And.intro hvo nR9));have HaE:=Lib.hid aE;have HbA:=Lib.hid bA;have HRp:=Lib.hid (RepsS.none' (F':=allF b vo' R' M vt9) (w':=(wa.drew.setRow qE #[.int .u8 4]).setRow qA #[.int .u32 ev.at_,.int .u32 ev.num,.slice aa ev.args.length ca,.int .u32 0]) HI.out.rep);have t11:=cells62 hq11;have hH0:(wa.drew.cell? ⟨w9.heap.size,0,none⟩=some (.int .u32 ev.at_)∧wa.drew.cell? ⟨w9.heap.size,1,none⟩=some (.int .u32 ev.num))∧(wa.drew.cell? ⟨w9.heap.size,2,none⟩=some (.slice aa ev.args.length ca)∧wa.drew.cell? ⟨w9.heap.size,3,none⟩=some (.int .u32 0)):=⟨⟨t11.1,t11.2.1⟩,⟨t11.2.2.1,t11.2.2.2⟩⟩
     have hH1:((wa.drew.setRow qE #[.int .u8 4]).cell? ⟨w9.heap.size,0,none⟩=some (.int .u32 ev.at_)∧(wa.drew.setRow qE #[.int .u8 4]).cell? ⟨w9.heap.size,1,none⟩=some (.int .u32 ev.num))∧((wa.drew.setRow qE #[.int .u8 4]).cell? ⟨w9.heap.size,2,none⟩=some (.slice aa ev.args.length ca)∧(wa.drew.setRow qE #[.int .u8 4]).cell? ⟨w9.heap.size,3,none⟩=some (.int .u32 0)):=by
      have t:=cells62 ((setRow_other wa.drew qE _ #[.int .u8 4] hE11).trans (hq11:wa.drew.heap[w9.heap.size]?=_));exact⟨⟨t.1,t.2.1⟩,⟨t.2.2.1,t.2.2.2⟩⟩
     clear rows9 aE aA a3 aP aR aU nE9 nA9 nR9 hE11 hvo ob bA oc xb xc hw0 hoc frc st cE cA x9 f9 hown t11 hba hq11 k3 k66;go_wp2_with fail;rw[←hwa];clear hwa;refine wp_region_noPanic ?_;refine wp_region_held_drew (S:=fun W=>(W.cell? ⟨w9.heap.size,0,none⟩=some (.int .u32 ev.at_)∧W.cell? ⟨w9.heap.size,1,none⟩=some (.int .u32 ev.num))∧(W.cell? ⟨w9.heap.size,2,none⟩=some (.slice aa ev.args.length ca)∧W.cell? ⟨w9.heap.size,3,none⟩=some (.int .u32 0))) hmx hH0 (fun hHeld=>?_);refine tk 0 hHeld ?_;refine rd 1 ⟨none,.store 38 (.tmp 8) (.const (.int .u8 4)),_,_,_,none⟩ fun K hK=>?_;rw[if_pos (by rfl)];refine outs_wp (R:=fun v W'=>v=undef∧W'=wa.drew.setRow qE #[.int .u8 4]) (outs_store_one 38 (.tmp 8) (.const (.int .u8 4)) rfl qE _ rfl rfl rfl 38 _ HaE.out tinfo59 ⟨rfl,rfl⟩) ?_;rintro _ _⟨rfl,rfl⟩;refine hK.out _ _ hH1 (fun _=>?_);clear hK K
     try simp only[Act.put,aT,aZ,aS]
     refine rd 2 ⟨none,.store 42 (.tmp 10) (.tmp 54),_,_,_,none⟩ fun K hK=>?_;rw[if_pos (by rfl)];refine outs_wp (R:=fun v W'=>v=undef∧W'=(wa.drew.setRow qE #[.int .u8 4]).setRow qA #[.int .u32 ev.at_,.int .u32 ev.num,.slice aa ev.args.length ca,.int .u32 0]) (outs_store_row 42 (.tmp 10) (.tmp 54) rfl qA _ rfl rfl 42 _ HbA.out info62 (by rfl) (by simp[Value.oneCell']) ⟨rfl,rfl⟩) ?_;rintro _ _⟨rfl,rfl⟩;have hH2:=held4 (wa.drew.setRow qE #[.int .u8 4]) (q:=qA) (row:=#[.int .u32 ev.at_,.int .u32 ev.num,.slice aa ev.args.length ca,.int .u32 0]) hH1 (fun e=>HXA.out e);refine hK.out _ _ hH2 (fun _=>?_);clear hK K
     try simp only[Act.put,aT,aZ,aS]
     refine wpAnyH_done (by kernel_rfl) ?_ _;refine NoPanic.normal ?_;clear hHeld hH0 hH1 hH2;go_wp2_with fail;refine go_door HH.out rfl rfl HXc.out HHc.out HI.out.wf HI.out.fit HRp.out HI.out.on HFc.out HRc.out.1 HRc.out.2.2.1 (ask:=ev) (va:=.slice aa ev.args.length ca) HRc.out.2.1 HOc.out.1 HOc.out.2.1 HRc.out.2.2.2.2.1 rfl HRc.out.2.2.2.2.2 HRc.out.2.2.2.1 HPN.out.1 HPN.out.2 HI.out.rl HD.out.1.1 HD.out.1.2.1 HD.out.1.2.2.1 HD.out.1.2.2.2.1 HD.out.1.2.2.2.2 HOc.out.2.2 HD.out.2.2.1 HGG.out ?_;rw[HI.out.goes,HI.out.lgq];obtain⟨e1,e2,e3⟩:=res_asks (n:=reps.length) (gr:=gr) (k:=k) (reps':=[]) (t:=t) (e:=evs'.map (·.1)) (ev:=ev) (f:=fu - k) (mo:=moOf m) hl hw;exact⟨e1,e2,by rw[e3]⟩
   ·have hl2:¬((s'.life:Nat):Int)=1:=by omega
    clear I;go_wp2_with fail;refine go_door HH.out rfl rfl HI.out.x HI.out.home HI.out.wf HI.out.fit HI.out.rep HI.out.on HFw.out HRows.out.1 HRows.out.2.2.1 (ask:=askZ) (va:=.slice none 0 0) HRows.out.2.1 (World.ownsRow_nil _ _ _ _) (fun g e=>by cases e) HRows.out.2.2.2.2.1 rfl HRows.out.2.2.2.2.2 HRows.out.2.2.2.1 HPN.out.1 HPN.out.2 HI.out.rl HD.out.1.1 HD.out.1.2.1 HD.out.1.2.2.1 HD.out.1.2.2.2.1 HD.out.1.2.2.2.2 HNs.out.2.2.2.2 HD.out.2.2.1 HGG.out ?_;rw[HI.out.goes,HI.out.lgq];obtain⟨e1,e2,e3⟩:=res_still (n:=reps.length) (gr:=gr) (k:=k) (reps':=reps') (t:=t) (e:=evs'.map (·.1)) (en:=3) (ask:=askZ) (f:=fu - k) (mo:=moOf m) hl;exact⟨e1,e2,by rw[e3]⟩
 ·have hl2:¬((s.life:Nat):Int)=1:=by omega
  go_wp2_with fail;refine(HRs.out w2 (Below.refl _ _)).mono ?_;rintro e w3⟨rfl,hb3⟩;have hR3:=Lib.hid ((hb3.block _ (Array.getElem?_eq_some_iff.1 HR2.out).1).trans HR2.out);have hB3:=Lib.hid (Bel.tr HB2.out hb3);clear hb3;unfold restRow
  go_wp2_with((with_reducible refine wpList_store_row (o:=⟨none,.store 44 (.tmp 6) (.tmp 33),_,_,_,none⟩) rfl 44 _ _ rfl (w.heap.size+1+1) (restRow s) ?_ ?_ 44 _ hR3.out ?_ ?_ ?_ ?_);rfl;rfl;exact info64;rfl;(unfold restRow;simp[Value.oneCell']))
  refine⟨_,results_cell_tmp Tryz.results9 _ _ (w.heap.size+1+1) 44 _ (0,0) _ rfl (setRow_heap _ _ _ _ _ _ hR3.out) Tryz.underlying44 rfl (size64 _ _ _ _ _ _ _ _ _ _ _) _ rfl,?_⟩;exact goOut_still HH.out hl _ (below_setRow hB3.out _ (by omega) _)
end
theorem words_new2 (w:World) (x y:Nat) (hx:x<4294967296) (hy:y<4294967296):Words (w.alloc (.cells #[.int .u32 (x:Int),.int .u32 (y:Int)] 25)) (.slice (some ⟨w.heap.size,0,none⟩) 2 2) [x,y]:=by
 refine⟨⟨_,_,rfl,rfl,Nat.le_refl _,by unfold maxLen;decide,(fun h=>by cases h),fun _=>⟨w.heap.size,0,rfl,by simp,fun j hj=>?_⟩⟩,fun k=>?_⟩
 ·have hj':j<2:=hj
  rw[Nat.zero_add];refine(cell_of_row (w.alloc (.cells #[.int .u32 (x:Int),.int .u32 (y:Int)] 25)) w.heap.size j _ _ _ (heap_alloc_new _ _)).trans ?_;have:j=0∨j=1:=by omega
  rcases this with rfl|rfl<;>rfl
 ·rcases k with _|_|k
  ·exact hx
  ·exact hy
  ·show([x,y]:List Nat).getD (k+2) 0<_
   simp
theorem reps_new1 (w:World) (x:Nat) (hx:x<4294967296) {F:Nat→Prop} (hF:¬F w.heap.size):RepsS (w.alloc (.cells #[.int .u32 (x:Int),.slice none 0 0] 69)) F (.slice (some ⟨w.heap.size,0,none⟩) 1 1) [⟨x,[]⟩]:=by
 refine⟨_,_,rfl,Nat.le_refl _,by unfold maxLen;decide,fun r hr=>by simp at hr;rw[hr];exact hx,fun _=>⟨w.heap.size,0,fun _=>.slice none 0 0,rfl,by simp,hF,fun i hi=>?_⟩⟩;have hi0:i=0:=by simp at hi;omega
 subst hi0;refine⟨cell_of_row (w.alloc (.cells #[.int .u32 (x:Int),.slice none 0 0] 69)) w.heap.size 0 _ _ _ (heap_alloc_new _ _),cell_of_row (w.alloc (.cells #[.int .u32 (x:Int),.slice none 0 0] 69)) w.heap.size 1 _ _ _ (heap_alloc_new _ _),none,0,rfl,Nat.le_refl _,Nat.zero_le _,by simp,by simp⟩
theorem evs_one {w:World} {F:Nat→Prop} {v:Value} {l:List Ev} (h:EvsAt w F v l) (hl:l.map (fun e=>e.args)=[[5]]) :
 ∃gb off cap ga oa ca,v=.slice (some ⟨gb,off,none⟩) 1 cap∧gb<w.heap.size∧ga<w.heap.size∧w.cell? ⟨gb,off+2,none⟩=some (.slice (some ⟨ga,oa,none⟩) 1 ca)∧w.cell? ⟨ga,oa,none⟩=some (.int .u32 5):=by
 obtain⟨xs,hx,ho,-,hw⟩:=h
 have hlen:xs.length=1:=by
  have:=congrArg List.length hl;rw[List.length_map,←hx,List.length_map]at this;exact this
 match xs,hlen with
 | [x],_=>
  have hxa:x.1.args=[5]:=by
   rw[←hx]at hl
   simpa using hl
  obtain⟨a,c,rfl,hl1,-,-,-,hp⟩:=own_reads ho;obtain⟨gb,off,rfl,hgb,hc⟩:=hp (by simp);have hw1:=(hw x (by simp)).1;rw[hxa]at hw1;obtain⟨a2,c2,hv2,-,-,-,-,hp2⟩:=own_reads hw1;obtain⟨ga,oa,rfl,hga,hc2⟩:=hp2 (by simp);refine⟨gb,off,c,ga,oa,c2,rfl,hgb,hga,?_,?_⟩
  ·refine(hc 2 (by simp[encE])).trans ?_
   show some x.2=_
   rw[hv2];rfl
  ·exact(hc2 0 (by simp[encN])).trans rfl
section
variable {w:World}
theorem rawake_any (w:World):Calls Tryz.prog 7 #[] w fun e w'=>e=.returned (.bool true)∧Below w.heap.size w w':=by
 have hz:=zero64;have h1:=kn_b162;have h2:=kn_bs53;have h3:=run_bs23_2;have HK:=Lib.hid (known_any 1 (by decide) (by decide) w);go_enter Tryz.func7,Tryz.ntmps7;go_wp2_with fail;refine HK.out.mono ?_;rintro e w1⟨hb1,w0,b,K,M,vo,mb,rfl,hb0,hr⟩;have hfl:=hr.x.flt;have hbn:=Bel.new w1 (.cells #[.int .u32 ((5:Nat):Int),.int .u32 ((6:Nat):Int)] 25);have hr2:Rdy w0 (w1.alloc (.cells #[.int .u32 ((5:Nat):Int),.int .u32 ((6:Nat):Int)] 25)) b K (moOf imK).fst vo R0 M (.slice none 0 0) [] [(1,1)] mb imK:=⟨hr.st,hr.x.below hbn,hr.home.fr (Fr.of hbn _),hr.wf,hr.fit,hr.rn,hr.en⟩
 have HSt:=Lib.hid (mstart_any hr2 (at_:=0) (by decide) (words_new2 w1 5 6 (by decide) (by decide)) (fun b' off n c e h0 hF=>by
  cases e;have:=hfl _ hF
  omega))
 have HB1:=Lib.hid hb1;have HB0:=Lib.hid hb0;have HBn:=Lib.hid hbn;clear hr hfl hr2 hb1 hb0 hbn;go_wp2_with fail;refine HSt.out.mono ?_;rintro e w2 (⟨hbg,-⟩|⟨-,hlen,-⟩|⟨-,-,rfl,hrd,hfr⟩)
 ·rw[begK]at hbg;cases hbg
 ·exact absurd hlen (by decide)
 have hfl:=hrd.x.flt;have hbn2:=Bel.new w2 (.cells #[.int .u32 ((9:Nat):Int),.slice none 0 0] 69);have hrd2:Rdy w0 (w2.alloc (.cells #[.int .u32 ((9:Nat):Int),.slice none 0 0] 69)) b K stK (.slice none 0 0) R0 M (.slice none 0 0) [] [(1,1)] mb imK:=⟨hrd.st,hrd.x.below hbn2,hrd.home.fr (Fr.of hbn2 _),hrd.wf,hrd.fit,hrd.rn,hrd.en⟩;have HGo:=Lib.hid (go_any hrd2 (fu:=100) (by decide) (reps_new1 w2 9 (by decide) (fun e=>by have:=hfl _ e;omega)) (by decide));have HHome:=Lib.hid (hrd.home.b);clear hrd hfl hrd2 hfr;go_wp2_with fail;refine HGo.out.mono ?_;rintro e w3⟨v,vo3,R3,vt3,rfl,hres,hrd3,-,-⟩;have hres':ResAt w3 (allF b vo3 R3 M vt3) v (resOf 1 goK):=hres;obtain⟨g1,g2,g3,g4⟩:=goK_is;obtain⟨ve,va,rfl,hev,hva,-⟩:=hres';obtain⟨gb,off,cap,ga,oa,ca,rfl,hgb,hga,cc1,cc2⟩:=evs_one hev g4;obtain⟨a9,c9,hv9,-⟩:=own_sl hva;generalize (resOf 1 goK).ask.args.length=n9 at*;subst hv9;unfold resRow;rw[g1,g2,g3];generalize resOf 1 goK=r at*;have HB3:=Lib.hid (Bel.tr HB0.out hrd3.home.b);clear hev hva hres g1 g2 g3 g4 hrd3;obtain⟨W4,hW4⟩:∃W4,W4=w3.alloc (.cells #[.int .u8 (1:Nat),.int .u32 r.at_,.int .u32 (9:Nat),.int .u8 r.fault,.int .i64 (7:Nat),.int .i64 r.nrep,.slice (some ⟨gb,off,none⟩) 1 cap,.int .u32 r.ask.at_,.int .u32 r.ask.num,.slice a9 n9 c9,.int .u32 r.ask.val] 44):=⟨_,rfl⟩;have hb4:Below w3.heap.size w3 W4:=by rw[hW4];exact Bel.new _ _
 have hr4:W4.heap[w3.heap.size]?=some (.cells #[.int .u8 (1:Nat),.int .u32 r.at_,.int .u32 (9:Nat),.int .u8 r.fault,.int .i64 (7:Nat),.int .i64 r.nrep,.slice (some ⟨gb,off,none⟩) 1 cap,.int .u32 r.ask.at_,.int .u32 r.ask.num,.slice a9 n9 c9,.int .u32 r.ask.val] 44 (0,0)):=by rw[hW4];exact heap_alloc_new _ _
 obtain⟨⟨q0,-,q2,-,q4,-⟩,q6,-⟩:=cells64 hr4;have p1:=(hb4.cell (p:=⟨gb,off+2,none⟩) hgb).trans cc1;have p2:=(hb4.cell (p:=⟨ga,oa,none⟩) hga).trans cc2;rw[hW4]at q0 q2 q4 q6 p1 p2;have HB4:=Lib.hid (Bel.tr HB3.out hb4);rw[hW4]at HB4;clear hb4 hr4 hW4;go_wp2_with fail;go_ret;exact⟨rfl,HB4.out⟩
end
def pickN (x:Int) (n:Nat):Nat:=if x.tmod n<0 then(x.tmod n+n).toNat else(x.tmod n).toNat
theorem pickN_any (x:Int) (n:Nat) (h0:0<n) (hn:n≤4294967296) (w:World) :
 Calls Tryz.prog 31 #[.int .i64 x,.int .i64 n] w fun e w'=>e=.returned (.int .i64 (pickN x n))∧w'=w:=by
 have h1:decide ((n:Int)<1)=false:=decide_eq_false (by omega);have hne:((n:Int)==0)=false:=by simp;omega
 have hb:-(n:Int)<x.tmod n∧x.tmod n<n:=by
  have e:=Int.tmod_lt_of_pos x (show(0:Int)<n by omega);refine⟨?_,e⟩;have:=Int.tmod_lt_of_pos (-x) (show(0:Int)<n by omega);rw[Int.neg_tmod]at this;omega
 go_enter Tryz.func31,Tryz.ntmps31;go_wp2
 ·rename_i hs
  go_ret;refine⟨?_,rfl⟩;unfold pickN;rw[if_pos hs,Int.toNat_of_nonneg (by omega)]
  first|rfl|(rw[show IntKind.i64.wrap (x.tmod n+n)=x.tmod n+n from IntWalk.i64_in _ (by omega)])
 ·rename_i hs
  go_ret;refine⟨?_,rfl⟩;unfold pickN;rw[if_neg (by omega),Int.toNat_of_nonneg (by omega)];rfl
theorem pickN_lt (x:Int) (n:Nat) (h0:0<n):pickN x n<n:=by
 have e:=Int.tmod_lt_of_pos x (show(0:Int)<n by omega);have h2:=Int.tmod_lt_of_pos (-x) (show(0:Int)<n by omega);rw[Int.neg_tmod]at h2;unfold pickN
 split<;>omega
theorem few_any (x:Int) (n:Nat) (hn:n≤4294967295) (w:World) :
 Calls Tryz.prog 10 #[.int .i64 x,.int .i64 n] w fun e w'=>e=.returned (.int .i64 (pickN x (n+1)))∧w'=w:=by
 have H:=Lib.hid (pickN_any x (n+1) (by omega) (by omega) w);have hw:IntKind.i64.wrap ((n:Int)+1)=((n+1:Nat):Int):=by rw[IntWalk.i64_in _ (by omega)];rfl
 generalize pickN x (n+1)=r at*;go_enter Tryz.func10,Tryz.ntmps10;go_wp2_with fail;refine H.out.mono ?_;rintro e w1⟨rfl,rfl⟩;go_wp2_with fail;go_ret;exact⟨rfl,rfl⟩
structure RunOk (m:Img) (gr:List (Nat×Int)) (at_:Nat) (args:List Nat):Prop where
 t:TakeOk m
 g:GrOk gr
 b:(moOf m).begins at_=true
 a:args.length≤15
def RunningPost (m:Img) (gr:List (Nat×Int)) (at_:Nat) (args:List Nat) (w:World) (e:Ending) (w':World):Prop:=
 Below w.heap.size w w'∧((¬RunOk m gr at_ args∧e=.returned (.tuple #[.pointer none,.pointer none]))∨
  (RunOk m gr at_ args∧∃w0 b K M mb,e=.returned (.tuple #[.pointer (some ⟨mb,0,none⟩),.pointer (some ⟨b,0,none⟩)])∧Below w.heap.size w w0∧Rdy w0 w' b K (startM (moOf m) (moOf m).fst at_ args) (.slice none 0 0) R0 M (.slice none 0 0) [] gr mb m∧StatN w.heap.size w0 K mb m gr∧ModAt w0 w.heap.size mb m))
section
variable {w:World}
theorem running_any {vc vj vd vn vg va:Value} {m:Img} {gr:List (Nat×Int)} {at_:Nat} {args:List Nat} (hi:ImgAt w vc vj vd vn m) (hg:GrantsAt w vg gr) (ha:at_<4294967296) (hv:Words w va args) :
 Calls Tryz.prog 8 #[.agg #[vc,vj,vd,.int .u32 m.zero,.int .u32 m.stack,vn,vg],.int .u32 at_,va] w (RunningPost m gr at_ args w):=by
 obtain⟨ac,nc,cc,hvc⟩:∃a n c,vc=.slice a n c:=by obtain⟨⟨a,c,h,-⟩,-⟩:=hi.c;exact⟨a,_,c,h⟩
 obtain⟨aj,nj,cj,hvj⟩:∃a n c,vj=.slice a n c:=by obtain⟨⟨a,c,h,-⟩,-⟩:=hi.j;exact⟨a,_,c,h⟩
 obtain⟨ad,nd,cd,hvd⟩:∃a n c,vd=.slice a n c:=by obtain⟨⟨a,c,h,-⟩,-⟩:=hi.d;exact⟨a,_,c,h⟩
 obtain⟨an,nn,cn,hvn⟩:∃a n c,vn=.slice a n c:=by obtain⟨⟨a,c,h,-⟩,-⟩:=hi.n;exact⟨a,_,c,h⟩
 obtain⟨ag,ng,cg,hvg⟩:∃a n c,vg=.slice a n c:=by obtain⟨⟨a,c,h,-⟩,-⟩:=hg;exact⟨a,_,c,h⟩
 obtain⟨aa,na,ca,hva⟩:∃a n c,va=.slice a n c:=by obtain⟨⟨a,c,h,-⟩,-⟩:=hv;exact⟨a,_,c,h⟩
 subst hvc hvj hvd hvn hvg hva;obtain⟨W1,hW1⟩:∃W1,W1=w.alloc (.cells #[.slice ac nc cc,.slice aj nj cj,.slice ad nd cd,.int .u32 m.zero,.int .u32 m.stack,.slice an nn cn,.slice ag ng cg] 31):=⟨_,rfl⟩;have hb1:Below w.heap.size w W1:=by rw[hW1];exact Bel.new _ _
 have hr1:W1.heap[w.heap.size]?=some (.cells #[.slice ac nc cc,.slice aj nj cj,.slice ad nd cd,.int .u32 m.zero,.int .u32 m.stack,.slice an nn cn,.slice ag ng cg] 31 (0,0)):=by rw[hW1];exact heap_alloc_new _ _
 have c0:=cell_of_row W1 w.heap.size 0 _ _ _ hr1;have c1:=cell_of_row W1 w.heap.size 1 _ _ _ hr1;have c2:=cell_of_row W1 w.heap.size 2 _ _ _ hr1;have c3:=cell_of_row W1 w.heap.size 3 _ _ _ hr1;have c4:=cell_of_row W1 w.heap.size 4 _ _ _ hr1;have c5:=cell_of_row W1 w.heap.size 5 _ _ _ hr1;rw[hW1]at c0 c1 c2 c3 c4 c5;have HTk:=Lib.hid (takeV_any _ _ _ _ m W1 (hi.below hb1));have HG:=Lib.hid hg;have HV:=Lib.hid hv;have HB1:=Lib.hid hb1;have HR1:=Lib.hid hr1;have HI:=Lib.hid hi;obtain⟨ze,hze⟩:∃ze,ze=m.zero:=⟨_,rfl⟩;obtain⟨st,hst⟩:∃st,st=m.stack:=⟨_,rfl⟩;obtain⟨Ψ,hΨ⟩:∃Ψ,Ψ=RunningPost m gr at_ args w:=⟨_,rfl⟩;rw[←hΨ];have HPsi:=Lib.hid hΨ;rw[←hze,←hst]at c3 c4 HTk HR1 hW1⊢;rw[←hze,←hst]at c0 c1 c2 c5;clear hi hg hv hb1 hr1 hze hst hΨ;go_enter Tryz.func8,Tryz.ntmps8;go_wp2_with fail;rw[←hW1];clear hW1 c0 c1 c2 c3 c4 c5;refine HTk.out.mono ?_;rintro e w2⟨hb2,⟨x,c,rfl,hbad⟩|⟨mb,rfl,hok,hmod⟩⟩
 ·have hcp:=hbad.pos
  have hc0:¬((c:Nat):Int)=0:=by omega
  have hcb:(((c:Nat):Int)!=0)=true:=by simp;omega
  have HBd:=Lib.hid hbad;have HB2:=Lib.hid (Bel.tr HB1.out hb2);clear hcp hbad hb2;go_wp2_with fail;rw[HPsi.out];exact⟨HB2.out,.inl ⟨fun o=>o.t.not_bad HBd.out,rfl⟩⟩
 have HB2:=Lib.hid (Bel.tr HB1.out hb2);have HM2:=Lib.hid (show MAt w2 mb m from⟨hok,⟨_,hmod⟩,⟨_,_,_,_,_,HI.out⟩⟩);have HOk:=Lib.hid hok;have HMd:=Lib.hid hmod;have HNw:=Lib.hid (mnew_any HM2.out (HG.out.below HB2.out));have c6:=cell_of_row w2 w.heap.size 6 _ _ _ ((hb2.block _ (Array.getElem?_eq_some_iff.1 HR1.out).1).trans HR1.out);clear hb2 hok hmod;go_wp2_with fail;refine HNw.out.mono ?_;rintro e w3⟨hb3,⟨hno,rfl⟩|⟨hgo,w0,b,K,M,vo,rfl,hb0,hrdy,hsn⟩⟩
 ·have HB3:=Lib.hid (Bel.tr HB2.out hb3)
  clear hb3;go_wp2_with fail;rw[HPsi.out];exact⟨HB3.out,.inl ⟨fun o=>hno o.g,rfl⟩⟩
 have HB3:=Lib.hid (Bel.tr HB2.out hb3);have HB0:=Lib.hid (Bel.tr HB2.out hb0);have HSn:=Lib.hid (show StatN w.heap.size w0 K mb m gr∧ModAt w0 w.heap.size mb m from⟨⟨hsn.1.down HB2.out.size,own_downT hsn.2 HB2.out.size⟩,(HMd.out.below hb0).down HB1.out.size⟩);have HSt:=Lib.hid (mstart_any hrdy ha (HV.out.below HB3.out) (Out.home (hrdy.home) (HV.out.below HB0.out).1));have HGo:=Lib.hid hgo;have HHm:=Lib.hid hrdy.home;clear hb3 hb0 hrdy hgo c6 hsn;go_wp2_with fail;refine HSt.out.mono ?_;rintro e w4 (⟨hbg,rfl,hb4⟩|⟨hbg,hlen,rfl,hb4⟩|⟨hbg,hlen,rfl,hrd,hfr⟩)
 ·have HB4:=Lib.hid (Bel.tr HB3.out hb4)
  clear hb4;go_wp2_with fail;rw[HPsi.out];exact⟨HB4.out,.inl ⟨fun o=>(by rw[o.b]at hbg;cases hbg),rfl⟩⟩
 ·have HB4:=Lib.hid (Bel.tr HB3.out hb4)
  clear hb4;go_wp2_with fail;rw[HPsi.out];exact⟨HB4.out,.inl ⟨fun o=>(by have:=o.a;omega),rfl⟩⟩
 ·have HRd:=Lib.hid hrd
  clear hfr hrd;go_wp2_with fail;rw[HPsi.out];exact⟨Bel.tr HB0.out HRd.out.home.b,.inr ⟨⟨HOk.out,HGo.out,hbg,hlen⟩,w0,b,K,M,mb,rfl,HB0.out,HRd.out,HSn.out.1,HSn.out.2⟩⟩
end
structure StR (w:World) (vo vd:Value) (s:St):Prop where
 o:Reads w 1 vo s.ops.length (encN .u32 s.ops)
 d:Bytes w vd s.data
theorem StR.below {w w':World} {vo vd:Value} {s:St} (h:StR w vo vd s) (hb:Below w.heap.size w w'):StR w' vo vd s:=⟨h.o.below hb,h.d.below hb⟩
theorem StR.fr {w w':World} {F F':Nat→Prop} {vo vd:Value} {s:St} (h:StR w vo vd s) (hf:Fr w w' F F') (h1:Out F vo) (h2:Out F vd):StR w' vo vd s∧Out F' vo∧Out F' vd:=⟨⟨(h.o.fr hf h1).1,(h.d.fr hf h2).1⟩,(h.o.fr hf h1).2,(h.d.fr hf h2).2⟩
theorem sameState_r {w:World} {vo vd uo ud:Value} {s:St} (h1:StR w vo vd s) (h2:StR w uo ud s) :
 Calls Tryz.prog 13 #[stV vo vd s,stV uo ud s] w fun e w'=>e=.returned (.bool true)∧Below w.heap.size w w':=by
 obtain⟨W0,hW0⟩:∃W0,W0=(w.alloc (.cells #[.int .u8 s.life,.int .u32 s.pc,.int .u32 s.sp,vo,vd,.int .u32 s.value,.int .u8 s.fault] 51)).alloc (.cells #[.int .u8 s.life,.int .u32 s.pc,.int .u32 s.sp,uo,ud,.int .u32 s.value,.int .u8 s.fault] 51):=⟨_,rfl⟩;have hb0:Below w.heap.size w W0:=by rw[hW0];exact Bel.al (Bel.new _ _) _
 have HSa:=Lib.hid (StB.row (s:=s) (vo:=vo) (vd:=vd) (by rw[hW0,Below.heap_alloc _ _ _ (by simp)];exact heap_alloc_new w _):StB W0 w.heap.size vo vd s)
 have HSb:=Lib.hid (StB.row (s:=s) (vo:=uo) (vd:=ud) (by
  rw[hW0];have:=heap_alloc_new (w.alloc (.cells #[.int .u8 s.life,.int .u32 s.pc,.int .u32 s.sp,vo,vd,.int .u32 s.value,.int .u8 s.fault] 51)) (.cells #[.int .u8 s.life,.int .u32 s.pc,.int .u32 s.sp,uo,ud,.int .u32 s.value,.int .u8 s.fault] 51)
  simpa using this):StB W0 (w.heap.size+1) uo ud s)
 have HWd:=Lib.hid (sameWords_yes rfl (h1.o.below hb0) (h2.o.below hb0));have HBy:=Lib.hid (fun W (hW:Below W0.heap.size W0 W)=>sameBytes_any ((h1.d.below hb0).below hW) ((h2.d.below hb0).below hW));rw[decide_eq_true rfl]at HBy;have HB0:=Lib.hid hb0;obtain⟨a1,c1,rfl,-⟩:=h1.o;obtain⟨a2,c2,rfl,-⟩:=h1.d.1;obtain⟨a3,c3,rfl,-⟩:=h2.o;obtain⟨a4,c4,rfl,-⟩:=h2.d.1;obtain⟨d0,d1,d2,d3,d4,d5,d6⟩:=HSa.out;obtain⟨e0,e1,e2,e3,e4,e5,e6⟩:=HSb.out;clear h1 h2 hb0;unfold stV;go_enter Tryz.func13,Tryz.ntmps13;go_wp2_with fail;rw[←hW0];clear hW0;refine HWd.out.mono ?_;rintro e w1⟨rfl,hb1⟩;have HBy1:=Lib.hid (HBy.out w1 hb1);have HB1:=Lib.hid (Bel.tr HB0.out hb1);have f4:=(HSa.out.below hb1).c4;have g4:=(HSb.out.below hb1).c4;clear d0 d1 d2 d3 d4 d5 d6 e0 e1 e2 e3 e4 e5 e6 hb1;go_wp2_with fail;refine HBy1.out.mono ?_;rintro e w2⟨rfl,hb2⟩;have HB2:=Lib.hid (Bel.tr HB1.out hb2);clear hb2;go_wp2_with fail;go_ret;exact⟨rfl,HB2.out⟩
theorem resAt_rest (w:World) (F:Nat→Prop) (en at_ value fault:Nat):ResAt w F (.agg #[.int .u8 en,.int .u32 at_,.int .u32 value,.int .u8 fault,.int .i64 0,.int .i64 0,.slice none 0 0,.int .u32 0,.int .u32 0,.slice none 0 0,.int .u32 0]) ⟨en,at_,value,fault,0,0,[],askZ⟩:=
 ⟨.slice none 0 0,.slice none 0 0,rfl,⟨[],rfl,World.ownsRow_nil _ _ _ _,fun g e=>(by cases e),fun y hy=>(by cases hy)⟩,World.ownsRow_nil _ _ _ _,fun g e=>(by cases e)⟩
section
variable {w0 w w':World} {b:Nat} {K:MacK} {s:St} {vo:Value} {R:MacR} {M:MemK} {vt:Value} {lg:List (Nat×Bool)} {gr:List (Nat×Int)} {mb:Nat} {m:Img} {F G:Nat→Prop} {B:Nat}
theorem Rdy.beside (h:Rdy w0 w b K s vo R M vt lg gr mb m) (hf:Fr w w' F G) (h1:∀k,F k→w0.heap.size≤k) (h2:∀k,allF b vo R M vt k→¬F k):Rdy w0 w' b K s vo R M vt lg gr mb m:=
 ⟨h.st,h.x.fr' hf h2 (fun x hx=>by cases hx),⟨⟨hf.os.trans h.home.b.os,hf.tape.trans h.home.b.tape,hf.output.trans h.home.b.output,Nat.le_trans h.home.b.size hf.size,
  fun k hk=>(hf.block k (Nat.lt_of_lt_of_le hk h.home.b.size) (fun e=>by have:=h1 k e;omega)).trans (h.home.b.block k hk)⟩,h.home.f⟩,h.wf,h.fit,h.rn,h.en⟩
theorem Rdy.over (h:Rdy w0 w b K s vo R M vt lg gr mb m) (hn:StatN B w0 K mb m gr) (hB:B≤w0.heap.size) (hf:Fr w w' F G) (hF:∀k,F k→k<B) (hm:∀w1,Fr w0 w1 F F→MAt w1 mb m) :
 ∃w1,w1.heap.size=w0.heap.size∧Fr w0 w1 F F∧Rdy w1 w' b K s vo R M vt lg gr mb m:=by
 have hs:w0.heap.size≤w'.heap.size:=Nat.le_trans h.home.b.size hf.size;have e1:(w'.heap.extract 0 w0.heap.size).size=w0.heap.size:=by simp[Array.size_extract];omega
 have e2:∀k,k<w0.heap.size→(w'.heap.extract 0 w0.heap.size)[k]?=w'.heap[k]?:=fun k hk=>by
  rw[Array.getElem?_extract,if_pos (by omega),Nat.zero_add]
 have f1:Fr w0 {w' with heap:=w'.heap.extract 0 w0.heap.size} F F:=
  ⟨hf.os.trans h.home.b.os,hf.tape.trans h.home.b.tape,hf.output.trans h.home.b.output,Nat.le_of_eq e1.symm,
   fun k hk hn=>(e2 k hk).trans ((hf.block k (Nat.lt_of_lt_of_le hk h.home.b.size) hn).trans (h.home.b.block k hk)),fun _ e=>.inl e⟩
 refine⟨{w' with heap:=w'.heap.extract 0 w0.heap.size},e1,f1,h.st.lo hn f1 hF (hm _ f1),h.x.fr' hf (fun k hk e=>?_) (fun x hx=>by cases hx),⟨⟨rfl,rfl,rfl,?_,fun k hk=>?_⟩,fun k hk=>?_⟩,h.wf,h.fit,h.rn,h.en⟩
 ·have a1:=h.home.f k hk
  have a2:=hF k e;omega
 ·show(w'.heap.extract 0 w0.heap.size).size≤_
  omega
 ·have hk':k<w0.heap.size:=by rw[←e1];exact hk
  exact(e2 k hk').symm
 ·show(w'.heap.extract 0 w0.heap.size).size≤k
  rw[e1];exact h.home.f k hk
theorem fits_pc {mo:Mo} (hm:mo.Ok) {s:St} (h:mo.fits s=true):s.pc≤mo.im.code.length∧s.life<256∧s.fault<256:=by
 have dp:∀a,0≤mo.depth a→a≤mo.im.code.length:=fun a h0=>by
  unfold Mo.depth at h0;have:=hm.d.dl
  split at h0<;>omega
 unfold Mo.fits at h;simp only[Bool.and_eq_true,decide_eq_true_eq]at h;obtain⟨_,_,_,_,_,hx,h⟩:=h;by_cases c0:s.life=0
 ·rw[if_pos c0]at h
  simp only[Bool.and_eq_true,decide_eq_true_eq]at h;have:=hx (by omega);omega
 rw[if_neg c0]at h;by_cases c3:s.life=3
 ·rw[if_pos c3]at h
  simp only[Bool.and_eq_true,decide_eq_true_eq]at h;have:=dp _ (room_iff.1 h.2.2).1;omega
 rw[if_neg c3]at h;have:=hx c3;by_cases c1:s.life=1
 ·rw[if_pos c1]at h
  have:=dp _ (room_iff.1 h).1;omega
 rw[if_neg c1]at h;by_cases c2:s.life=2
 ·rw[if_pos c2]at h
  simp only[Bool.and_eq_true,decide_eq_true_eq]at h;have:=dp _ h.1;omega
 ·rw[if_neg c2]at h;cases h
theorem Rdy.small (h:Rdy w0 w b K s vo R M vt lg gr mb m):s.Small:=by
 have h1:=fits_pc (moOk h.st.mod.k) h.fit;have h2:=(small_of_check h.st.mod.k.k).c;have h3:(moOf m).im.code=m.code:=rfl;rw[h3]at h1;exact⟨h1.2.1,by omega,h.wf.sp,h.wf.ops,h.x.m.mem.lt,h.wf.v,h.x.m.mem.lt |> fun _=>h1.2.2⟩
theorem stAt_own {v1 v2:Value} {B1 B2 n N:Nat} (h1:w.ownsRow B1 25 1 v1 n (encN .u32 s.ops)) (h2:w.ownsRow B2 5 1 v2 N (encN .u8 s.data)) (hn:n=s.ops.length) (hN:N=s.data.length) (hs:s.Small):StAt w v1 v2 s:=by
 subst hn hN;refine⟨⟨own_reads h1,fun k=>?_⟩,⟨own_reads h2,hs.d⟩,hs⟩;by_cases hk:k<s.ops.length
 ·rw[List.getD_eq_getElem?_getD,List.getElem?_eq_getElem hk]
  exact hs.o _ (List.getElem_mem hk)
 ·rw[List.getD_eq_getElem?_getD,List.getElem?_eq_none (by omega)]
  decide
theorem mput_rdy (H:Rdy w0 w b K s vo R M vt lg gr mb m) {s':St} {v1 v2:Value} (hs:StAt w v1 v2 s') (hf:(moOf m).fits s'=true) (hw:Wf s') (ho:Out (fun k=>k=b) v1) :
 Calls Tryz.prog 15 #[.pointer (some ⟨b,0,none⟩),stV v1 v2 s'] w fun e w'=>e=.returned (.int .i64 0)∧∃K' M' v',Rdy w0 w' b K' s' v' R M' (.slice none 0 0) lg gr mb m∧Fr w w' (allF b vo R M vt) (allF b v' R M' (.slice none 0 0)):=by
 have hops:=fits_ops (moOk H.st.mod.k) hf;refine(mput_ok (K:=K) (V:=macV s vo R) H.x.m.o.m H.st.md (H.home.mat H.st.mod) hs (by omega) H.st.mod.k hf ho).mono ?_;rintro e w'⟨rfl,p,g,c,v',hp,hg,hmac,hrow,hmem,hfr⟩;have hR:∀g,R.log.ownBlock=some g→g≠b:=fun g e e2=>H.x.m.o.m.not_own H.x.lr (by decide) (by rw[←e2];exact e)
 have hfA:Fr w w' (allF b vo R M vt) (allF b v' R ⟨p,g,c,s'.data.length⟩ (.slice none 0 0)):=by
  refine⟨hfr.os,hfr.tape,hfr.output,hfr.size,fun k hk hn=>hfr.block k hk (fun e=>hn (by rw[e];exact .inl (.inl (.inl rfl)))),fun k hk=>?_⟩;rcases hk with((e|e)|e|e|e)|e|e
  ·exact .inl (by rw[e];exact .inl (.inl (.inl rfl)))
  ·exact .inr (hrow.lt k e).1
  ·exact .inr (by rw[e];exact hp)
  ·exact .inr (by rw[e];exact hg)
  ·cases e
  ·exact .inl (.inr (.inl e))
  ·exact .inl (.inr (.inr e))
 refine⟨rfl,{K with mem:=.pointer (some ⟨p,0,none⟩)},⟨p,g,c,s'.data.length⟩,v',⟨⟨H.st.mod,H.st.md,H.st.gate,H.st.code,H.st.acts,H.st.floor,H.st.top⟩,⟨⟨⟨hmac,own_base hrow⟩,hmem,rfl⟩,?_,fun x hx=>(by cases hx),fun x hx=>(by cases hx),own_fr H.x.lr hfr (fun g e=>hR g e),H.x.ll,fun g e e2=>(by cases e2)⟩,H.home.fr hfA,hw,hf,H.rn,H.en⟩,hfA⟩;rw[H.en];exact World.ownsRow_nil _ _ _ _
theorem Rdy.bare (h:Rdy w0 w b K s (.slice none 0 0) R0 M (.slice none 0 0) lg gr mb m) {B e sz n:Nat} {v:Value} {xs:List Value} (ho:w.ownsRow B e sz v n xs) (h1:e≠85) (h2:e≠154) (h3:e≠5):∀g,v.ownBlock=some g→¬allF b (.slice none 0 0) R0 M (.slice none 0 0) g:=by
 intro g hg hk;rcases hk with((e1|e1)|e1|e1|e1)|e1|e1
 ·exact h.x.m.o.m.not_own ho h1 (by rw[←e1];exact hg)
 ·cases e1
 ·exact not_row_of ho h.x.m.mem.hp h2 (by rw[←e1];exact hg)
 ·exact own_apart ho h.x.m.mem.row h3 g hg (by rw[e1];rfl)
 ·cases e1
 ·cases e1
 ·cases e1
theorem ResAt.apart {v:Value} {r:Res} (h:ResAt w F v r) (hG:∀{e sz n:Nat} {u:Value} {xs:List Value},w.ownsRow 0 e sz u n xs→e=42∨e=25→∀g,u.ownBlock=some g→¬G g):ResAt w G v r:=by
 obtain⟨ve,va,h1,⟨xs,e1,e2,-,e4⟩,h3,-⟩:=h;exact⟨ve,va,h1,⟨xs,e1,e2,hG e2 (.inl rfl),fun x hx=>⟨(e4 x hx).1,hG (e4 x hx).1 (.inr rfl)⟩⟩,h3,hG h3 (.inr rfl)⟩
theorem RepsAt.drop {a:Option Addr} {n c k:Nat} {rs:List Rep} (h:RepsAt w (.slice a n c) rs) (hk:k≤n) {a':Option Addr} (ha:k<n→∀g o,a=some ⟨g,o,none⟩→a'=some ⟨g,o+k*2,none⟩):RepsAt w (.slice a' (n - k) (c - k)) (rs.drop k):=by
 obtain⟨a1,c1,hv,h1,h2,h3,h4⟩:=h;cases hv;refine⟨a',c - k,by rw[List.length_drop],by rw[List.length_drop];omega,by omega,fun x hx=>h3 x (List.mem_of_mem_drop hx),fun hl=>?_⟩;rw[List.length_drop]at hl⊢;obtain⟨g,o,us,e1,e2,e3⟩:=h4 (by omega);refine⟨g,o+k*2,fun i=>us (k+i),ha (by omega) g o e1,e2,fun i hi=>?_⟩;have:=e3 (k+i) (by omega);have ea:o+(k+i)*2=o+k*2+i*2:=by omega
 have eb:(rs.drop k).getD i ⟨0,[]⟩=rs.getD (k+i) ⟨0,[]⟩:=by rw[List.getD_eq_getElem?_getD,List.getElem?_drop,List.getD_eq_getElem?_getD]
 rw[ea]at this;rw[eb];exact this
theorem Below.thru {n:Nat} {w1:World} (h:Below n w w0) (hf:Fr w0 w1 F G) (hn:n≤w.heap.size) (hF:∀k,F k→n≤k):Below n w w1:=
 ⟨hf.os.trans h.os,hf.tape.trans h.tape,hf.output.trans h.output,Nat.le_trans h.size hf.size,fun k hk=>(hf.block k (Nat.lt_of_lt_of_le hk (Nat.le_trans hn h.size)) (fun e=>by have:=hF k e;omega)).trans (h.block k hk)⟩
theorem cut_res {mo:Mo} (hg:∀g∈gr,0≤g.2) (f g:Nat) (reps:List Rep) (s:St) {g1 g2:GoR} (h1:g1=goM mo gr f reps s) (h2:g2=goM mo gr g g1.reps g1.st) {one two:Res} (h3:one=resOf reps.length g1) (h4:two=resOf g1.reps.length g2) :
 goM mo gr (f+g) reps s=g1.then g2∧resOf reps.length (goM mo gr (f+g) reps s)={two with used:=two.used+one.used,nrep:=two.nrep+one.nrep,ev:=one.ev++two.ev}∧one.nrep≤reps.length∧g1.reps=reps.drop one.nrep∧one.used≤f∧two.used≤g∧two.nrep+one.nrep≤reps.length∧one.ev.length≤f∧two.ev.length≤g:=by
 have hc:=goM_cut mo gr g f reps s;obtain⟨e1,e2,-,e4⟩:=goM_ev mo gr hg f reps s;obtain⟨d1,d2,-,d4⟩:=goM_ev mo gr hg g g1.reps g1.st;have u1:=goM_used mo gr f reps s;have u2:=goM_used mo gr g g1.reps g1.st;rw[←h1]at e1 e2 e4 hc u1;rw[←h2]at d1 d2 d4 hc u2;have l1:g1.reps.length=reps.length - g1.ev.length:=by rw[e1,List.length_drop]
 have l2:g2.reps.length=g1.reps.length - g2.ev.length:=by rw[d1,List.length_drop]
 have o1:one.nrep=g1.ev.length∧one.used=g1.used∧one.ev=g1.ev:=by
  rw[h3];unfold resOf
  split
  ·exact⟨by show reps.length - g1.reps.length=_;omega,rfl,rfl⟩
  ·exact⟨by show reps.length - g1.reps.length=_;omega,rfl,rfl⟩
 have o2:two.nrep=g2.ev.length∧two.used=g2.used∧two.ev=g2.ev:=by
  rw[h4];unfold resOf
  split
  ·exact⟨by show g1.reps.length - g2.reps.length=_;omega,rfl,rfl⟩
  ·exact⟨by show g1.reps.length - g2.reps.length=_;omega,rfl,rfl⟩
 refine⟨hc,?_,by omega,by rw[o1.1];exact e1,by omega,by omega,by omega,by rw[o1.2.2];omega,by rw[o2.2.2];omega⟩;rw[hc,o1.1,o1.2.1,o1.2.2,o2.1,o2.2.1,o2.2.2,h4];unfold resOf GoR.then;simp only;have e5:reps.length - g2.reps.length=g2.ev.length+g1.ev.length:=by omega
 rw[e5,Nat.add_comm g1.used g2.used]
 split<;>rfl
theorem repsFit_drop {rs:List Rep} (h:repsFit rs=true) (k:Nat):repsFit (rs.drop k)=true:=by
 unfold repsFit at h⊢;rw[List.all_eq_true]at h⊢;exact fun x hx=>h x (List.mem_of_mem_drop hx)
theorem Rdy.below (h:Rdy w0 w b K s vo R M vt lg gr mb m) (hb:Below w.heap.size w w'):Rdy w0 w' b K s vo R M vt lg gr mb m:=
 ⟨h.st,h.x.below hb,h.home.fr (Fr.of hb _),h.wf,h.fit,h.rn,h.en⟩
theorem ResAt.below {v:Value} {r:Res} (h:ResAt w F v r) (hb:Below w.heap.size w w'):ResAt w' F v r:=h.fr (Fr.of hb _)
theorem row_below {g:Nat} {o:Obj} (h:w.heap[g]?=some o) (hb:Below w.heap.size w w'):w'.heap[g]?=some o:=(hb.block _ (Array.getElem?_eq_some_iff.1 h).1).trans h
theorem Rdy.ops (h:Rdy w0 w b K s vo R M vt lg gr mb m):s.ops.length≤65536:=by have:=fits_ops (moOk h.st.mod.k) h.fit;omega
theorem out_own {e sz n:Nat} {v:Value} {xs:List Value} (h:w.ownsRow B e sz v n xs) (hF:∀g,v.ownBlock=some g→¬F g):Out F v:=fun g o n' c e1 h0=>by
 obtain⟨a,c',hv,-,-,hp⟩:=own_sl h;rw[e1]at hv;cases hv;obtain⟨g',ea,-⟩:=hp h0;cases ea;exact hF g (by rw[e1];rfl)
theorem encE_one:∀{xs:List (Ev×Value)},(∀x∈xs,w.ownsRow 0 25 1 x.2 x.1.args.length (encN .u32 x.1.args))→∀u∈encE xs,u.oneCell'=true
 | [],_,u,hu=>by cases hu
 | x::xs,h,u,hu=>by
  obtain⟨a,c,hv,-⟩:=own_sl (h x (List.mem_cons_self ..));simp only[encE,hv,List.mem_cons]at hu;rcases hu with rfl|rfl|rfl|rfl|hu
  ·rfl
  ·rfl
  ·rfl
  ·rfl
  ·exact encE_one (fun y hy=>h y (List.mem_cons_of_mem _ hy)) u hu
theorem EvsAt.cat {v:Value} {xs ys:List (Ev×Value)} {l1 l2:List Ev} (h:w.ownsRow 0 42 4 v (xs.length+ys.length) (encE xs++encE ys)) (h1:xs.map (·.1)=l1) (h2:ys.map (·.1)=l2)
 (hx:∀x∈xs,w.ownsRow 0 25 1 x.2 x.1.args.length (encN .u32 x.1.args)) (hy:∀x∈ys,w.ownsRow 0 25 1 x.2 x.1.args.length (encN .u32 x.1.args)):EvsAt w (fun _=>False) v (l1++l2):=
 ⟨xs++ys,by rw[List.map_append,h1,h2],by rw[List.length_append,encE_append];exact h,fun _ _ e=>e,fun x hm=>⟨(List.mem_append.1 hm).elim (hx x) (hy x),fun _ _ e=>e⟩⟩
end
open Go.ChangeShapes Go.WideShapes Go.ChangeAt Go.RowKit Go.Joins Go.Deep
section
variable {H:Type} {enc:TypeId×Value→H} {w:World} {base:Nat}
theorem open_words3 {n:Nat} {v:Value} {x:DataW H×List MemPlace} (hf:DataW.trod enc Tryz.prog w base (fun _=>true) true n 23 [v]=some x):∃l:List Nat,Words w v l:=by
 rcases open_ints Tryz.underlying23 Tryz.underlying25 cells33 hf with⟨hcs,_⟩|⟨a,len0,cap0,zs,hcs,_,hl,hm,hzl,hx,hcell,hwz⟩
 ·simp at hcs
  subst hcs;exact⟨[],⟨Reads.nil w 1,fun k=>by simp⟩⟩
 ·simp at hcs
  subst hcs;rw[if_pos rfl]at hzl
  have key:∀i,i<len0→∃q:Nat,w.cell? (a.add i)=some (.int .u32 (q:Nat))∧q<4294967296:=by
   intro i hil;have hiz:i<zs.length:=by omega
   have hc:=hcell i hiz;rw[List.getD_eq_getElem?_getD,List.getElem?_eq_getElem hiz]at hc;obtain⟨o,ho,hlt⟩:=u32_of (hwz _ (List.getElem_mem hiz));simp only[Option.getD_some]at hc;rw[ho]at hc;exact⟨o,hc,hlt⟩
  obtain⟨l,hll,hl2⟩:=choose_list len0 _ key;refine⟨l,⟨⟨some a,cap0,by rw[hll],by rw[encN_length,Nat.mul_one],by omega,hm,(fun h=>by cases h),fun h0=>?_⟩,getD_lt (fun i hi=>(hl2 i hi).2) (by decide)⟩⟩;obtain⟨b,off,spot⟩:=a;have hc:=(hl2 0 h0).1;have hspot:spot=none:=by simpa[Addr.add]using World.cell?_spot hc
  subst hspot;refine⟨b,off,rfl,by simpa[Addr.add]using World.block_lt_of_cell? w _ hc,fun k hk=>?_⟩;rw[encN_length]at hk;have hR:=(hl2 k hk).1;rw[Addr.add_mid]at hR;rw[hR,encN_at _ l k hk,getD_get l 0 hk]
theorem open_bytes3 {n:Nat} {v:Value} {x:DataW H×List MemPlace} (hf:DataW.trod enc Tryz.prog w base (fun _=>true) true n 24 [v]=some x):∃l:List Nat,Bytes w v l:=by
 rcases open_ints Tryz.underlying24 Tryz.underlying5 cells5 hf with⟨hcs,_⟩|⟨a,len0,cap0,zs,hcs,_,hl,hm,hzl,hx,hcell,hwz⟩
 ·simp at hcs
  subst hcs;exact⟨[],⟨Reads.nil w 1,fun k=>by simp⟩⟩
 ·simp at hcs
  subst hcs;rw[if_pos rfl]at hzl
  have key:∀i,i<len0→∃q:Nat,w.cell? (a.add i)=some (.int .u8 (q:Nat))∧q<256:=by
   intro i hil;have hiz:i<zs.length:=by omega
   have hc:=hcell i hiz;rw[List.getD_eq_getElem?_getD,List.getElem?_eq_getElem hiz]at hc;obtain⟨o,ho,hlt⟩:=u8_of (hwz _ (List.getElem_mem hiz));simp only[Option.getD_some]at hc;rw[ho]at hc;exact⟨o,hc,hlt⟩
  obtain⟨l,hll,hl2⟩:=choose_list len0 _ key
  refine⟨l,⟨⟨some a,cap0,by rw[hll],by rw[encN_length,Nat.mul_one],by omega,hm,(fun h=>by cases h),fun h0=>?_⟩,fun i hi=>by
   obtain⟨k,hk,rfl⟩:=List.mem_iff_getElem.1 hi
   exact(hl2 k hk).2⟩⟩
  obtain⟨b,off,spot⟩:=a;have hc:=(hl2 0 h0).1;have hspot:spot=none:=by simpa[Addr.add]using World.cell?_spot hc
  subst hspot;refine⟨b,off,rfl,by simpa[Addr.add]using World.block_lt_of_cell? w _ hc,fun k hk=>?_⟩;rw[encN_length]at hk;have hR:=(hl2 k hk).1;rw[Addr.add_mid]at hR;rw[hR,encN_at _ l k hk,getD_get l 0 hk]
theorem encG_get (l:List (Nat×Int)) (R:Nat→Value→Prop) (h0:∀i (hi:i<l.length),R (i*2) (.int .u32 (l[i].1:Nat))) (h1:∀i (hi:i<l.length),R (i*2+1) (.int .i64 l[i].2)) :
 ∀j,j<(encG l).length→∃u,(encG l)[j]?=some u∧R j u:=by
 intro j hj;rw[encG_len]at hj;rcases Nat.mod_two_eq_zero_or_one j with e|e
 ·obtain⟨k,rfl⟩:∃k,j=k*2:=⟨j / 2,by omega⟩
  have hk:k<l.length:=by omega
  refine⟨_,(encG_at l k hk).1,?_⟩;have:=h0 k hk
  rwa [List.getD_eq_getElem?_getD,List.getElem?_eq_getElem hk]
 ·obtain⟨k,rfl⟩:∃k,j=k*2+1:=⟨j / 2,by omega⟩
  have hk:k<l.length:=by omega
  refine⟨_,(encG_at l k hk).2,?_⟩;have:=h1 k hk
  rwa [List.getD_eq_getElem?_getD,List.getElem?_eq_getElem hk]
theorem cells166:Tryz.prog.cellsOf 73=2:=by kernel_rfl
theorem cells162o:Tryz.prog.cellsOf 69=2:=by kernel_rfl
theorem cells383o:Tryz.prog.cellsOf 146=2:=by kernel_rfl
theorem open_grants2 {n:Nat} {v:Value} {x:DataW H×List MemPlace} (hf:DataW.trod enc Tryz.prog w base (fun _=>true) true n 29 [v]=some x):∃gr:List (Nat×Int),GrantsAt w v gr:=by
 rcases open_slice_fields Tryz.underlying29 Tryz.underlying73 (by kernel_rfl) cells166 hf with⟨hcs,_⟩|⟨a,len0,cap0,m,D,Pl,hcs,_,hl,hm,hmm,hx,hi⟩
 ·simp at hcs
  subst hcs;exact⟨[],⟨Reads.nil w 2,fun i hi=>by cases hi⟩⟩
 ·simp at hcs
  subst hcs;rw[if_pos rfl]at hmm;subst hmm
  have key:∀i,i<len0→∃q:Nat×Int,(w.cell? (a.add (i*2))=some (.int .u32 (q.1:Nat))∧w.cell? (a.add (i*2+1))=some (.int .i64 q.2))∧q.1<4294967296:=by
   intro i hil;obtain⟨ys,n,_,_,_,hfs⟩:=hi i (by omega);obtain⟨v0,y0,hc0,_,t0⟩:=hfs 0 _ rfl;obtain⟨v1,y1,hc1,_,t1⟩:=hfs 1 _ rfl;obtain⟨x,e0,_,w0⟩:=DataW.trod_int Tryz.underlying25 t0;obtain⟨y,e1,_,w1⟩:=DataW.trod_int Tryz.underlying3 t1;simp at e0 e1;subst e0 e1;obtain⟨o,rfl,ho⟩:=u32_of w0;exact⟨(o,y),⟨hc0,hc1⟩,ho⟩
  obtain⟨l,hll,hl2⟩:=choose_list len0 _ key;refine⟨l,⟨⟨some a,m,by rw[hll],encG_len l,by omega,hm,(fun h=>by cases h),fun h0=>?_⟩,fun i hi=>?_⟩⟩
  ·obtain⟨b,off,spot⟩:=a
   have hc:=(hl2 0 h0).1.1;have hspot:spot=none:=by simpa[Addr.add]using World.cell?_spot hc
   subst hspot;refine⟨b,off,rfl,by simpa[Addr.add]using World.block_lt_of_cell? w _ hc,fun j hj=>?_⟩;obtain⟨u,e,hR⟩:=encG_get l (fun j u=>w.cell? ((⟨b,off,none⟩:Addr).add j)=some u) (fun i hi=>(hl2 i hi).1.1) (fun i hi=>(hl2 i hi).1.2) j hj;rw[e,←hR,Addr.add_mid]
  ·obtain⟨k,hk,rfl⟩:=List.mem_iff_getElem.1 hi
   exact(hl2 k hk).2
instance:Inhabited ((Nat×List Nat)×Value):=⟨((0,[]),undef)⟩
instance:Inhabited (Rep×Value):=⟨(⟨0,[]⟩,undef)⟩
theorem open_writes2 {n:Nat} {v:Value} {x:DataW H×List MemPlace} (hf:DataW.trod enc Tryz.prog w base (fun _=>true) true n 67 [v]=some x):∃ws:List (Nat×List Nat),WsAt w v ws:=by
 rcases open_slice_fields Tryz.underlying67 Tryz.underlying146 (by kernel_rfl) cells383o hf with⟨hcs,_⟩|⟨a,len0,cap0,m,D,Pl,hcs,_,hl,hm,hmm,hx,hi⟩
 ·simp at hcs
  subst hcs;exact⟨[],none,0,rfl,Nat.le_refl _,Nat.zero_le _,by simp,by simp⟩
 ·simp at hcs
  subst hcs;rw[if_pos rfl]at hmm;subst hmm
  have key:∀i,i<len0→∃q:(Nat×List Nat)×Value,(w.cell? (a.add (i*2))=some (.int .u32 (q.1.1:Nat))∧w.cell? (a.add (i*2+1))=some q.2)∧q.1.1<4294967296∧Bytes w q.2 q.1.2:=by
   intro i hil;obtain⟨ys,n,_,_,_,hfs⟩:=hi i (by omega);obtain⟨v0,y0,hc0,_,t0⟩:=hfs 0 _ rfl;obtain⟨v1,y1,hc1,_,t1⟩:=hfs 1 _ rfl;obtain⟨x,e0,_,w0⟩:=DataW.trod_int Tryz.underlying25 t0;simp at e0;subst e0;obtain⟨o,rfl,ho⟩:=u32_of w0;obtain⟨bs,hb⟩:=open_bytes3 t1;exact⟨((o,bs),v1),⟨hc0,hc1⟩,ho,hb⟩
  obtain⟨l,hll,hl2⟩:=choose_list len0 _ key;refine⟨l.map (·.1),some a,m,by rw[List.length_map,hll],by rw[List.length_map];omega,hm,fun x hx=>?_,fun h0=>?_⟩
  ·obtain⟨y,hy,rfl⟩:=List.mem_map.1 hx
   obtain⟨k,hk,rfl⟩:=List.mem_iff_getElem.1 hy;exact(hl2 k hk).2.1
  ·rw[List.length_map]at h0
   obtain⟨b,off,spot⟩:=a;have hc:=(hl2 0 h0).1.1;have hspot:spot=none:=by simpa[Addr.add]using World.cell?_spot hc
   subst hspot;refine⟨b,off,fun i=>(l.getD i default).2,rfl,by simpa[Addr.add]using World.block_lt_of_cell? w _ hc,fun i hi=>?_⟩;rw[List.length_map]at hi;have e1:(l.map (·.1)).getD i (0,[])=l[i].1:=by rw[List.getD_eq_getElem?_getD,List.getElem?_map,List.getElem?_eq_getElem hi];rfl
   have e2:l.getD i default=l[i]:=by rw[List.getD_eq_getElem?_getD,List.getElem?_eq_getElem hi];rfl
   have h:=hl2 i hi;rw[Addr.add_mid,Addr.add_mid]at h;dsimp only;rw[e1,e2];exact⟨h.1.1,h.1.2,h.2.2⟩
theorem open_replies2 {n:Nat} {v:Value} {x:DataW H×List MemPlace} (hf:DataW.trod enc Tryz.prog w base (fun _=>true) true n 32 [v]=some x):∃rs:List Rep,RepsAt w v rs:=by
 rcases open_slice_fields Tryz.underlying32 Tryz.underlying69 (by kernel_rfl) cells162o hf with⟨hcs,_⟩|⟨a,len0,cap0,m,D,Pl,hcs,_,hl,hm,hmm,hx,hi⟩
 ·simp at hcs
  subst hcs;exact⟨[],none,0,rfl,Nat.le_refl _,Nat.zero_le _,by simp,by simp⟩
 ·simp at hcs
  subst hcs;rw[if_pos rfl]at hmm;subst hmm
  have key:∀i,i<len0→∃q:Rep×Value,(w.cell? (a.add (i*2))=some (.int .u32 (q.1.val:Nat))∧w.cell? (a.add (i*2+1))=some q.2)∧q.1.val<4294967296∧WsAt w q.2 q.1.ws:=by
   intro i hil;obtain⟨ys,n,_,_,_,hfs⟩:=hi i (by omega);obtain⟨v0,y0,hc0,_,t0⟩:=hfs 0 _ rfl;obtain⟨v1,y1,hc1,_,t1⟩:=hfs 1 _ rfl;obtain⟨x,e0,_,w0⟩:=DataW.trod_int Tryz.underlying25 t0;simp at e0;subst e0;obtain⟨o,rfl,ho⟩:=u32_of w0;obtain⟨ws,hb⟩:=open_writes2 t1;exact⟨(⟨o,ws⟩,v1),⟨hc0,hc1⟩,ho,hb⟩
  obtain⟨l,hll,hl2⟩:=choose_list len0 _ key;refine⟨l.map (·.1),some a,m,by rw[List.length_map,hll],by rw[List.length_map];omega,hm,fun x hx=>?_,fun h0=>?_⟩
  ·obtain⟨y,hy,rfl⟩:=List.mem_map.1 hx
   obtain⟨k,hk,rfl⟩:=List.mem_iff_getElem.1 hy;exact(hl2 k hk).2.1
  ·rw[List.length_map]at h0
   obtain⟨b,off,spot⟩:=a;have hc:=(hl2 0 h0).1.1;have hspot:spot=none:=by simpa[Addr.add]using World.cell?_spot hc
   subst hspot;refine⟨b,off,fun i=>(l.getD i default).2,rfl,by simpa[Addr.add]using World.block_lt_of_cell? w _ hc,fun i hi=>?_⟩;rw[List.length_map]at hi;have e1:(l.map (·.1)).getD i ⟨0,[]⟩=l[i].1:=by rw[List.getD_eq_getElem?_getD,List.getElem?_map,List.getElem?_eq_getElem hi];rfl
   have e2:l.getD i default=l[i]:=by rw[List.getD_eq_getElem?_getD,List.getElem?_eq_getElem hi];rfl
   have h:=hl2 i hi;rw[Addr.add_mid,Addr.add_mid]at h;dsimp only;rw[e1,e2];exact⟨h.1.1,h.1.2,h.2.2⟩
theorem open_names3 {n:Nat} {v:Value} {x:DataW H×List MemPlace} (hf:DataW.trod enc Tryz.prog w base (fun _=>true) true n 26 [v]=some x):∃l:List (ByteArray×Nat),Texts w v l:=by
 rcases open_slice_fields Tryz.underlying26 Tryz.underlying167 (by kernel_rfl) cells52 hf with⟨hcs,_⟩|⟨a,len0,cap0,m,D,Pl,hcs,_,hl,hm,hmm,hx,hi⟩
 ·simp at hcs
  subst hcs;exact⟨[],⟨Reads.nil w 2,fun k=>by simp⟩⟩
 ·simp at hcs
  subst hcs;rw[if_pos rfl]at hmm;subst hmm
  have key:∀i,i<len0→∃q:ByteArray×Nat,(w.cell? (a.add (i*2))=some (.string q.1)∧w.cell? (a.add (i*2+1))=some (.int .u32 (q.2:Nat)))∧q.2<4294967296:=by
   intro i hil;obtain⟨ys,n,_,_,_,hfs⟩:=hi i (by omega);obtain⟨v0,y0,hc0,_,t0⟩:=hfs 0 _ rfl;obtain⟨v1,y1,hc1,_,t1⟩:=hfs 1 _ rfl;obtain⟨s,e0,_,_⟩:=DataW.trod_string Tryz.underlying9 t0;obtain⟨y,e1,_,w1⟩:=DataW.trod_int Tryz.underlying25 t1;simp at e0 e1;subst e0 e1;obtain⟨z,rfl,hz⟩:=u32_of w1;exact⟨(s,z),⟨hc0,hc1⟩,hz⟩
  obtain⟨l,hll,hl2⟩:=choose_list len0 _ key;refine⟨l,⟨⟨some a,m,by rw[hll],encX_length l,by omega,hm,(fun h=>by cases h),fun h0=>?_⟩,getD_lt (fun i hi=>?_) (by decide)⟩⟩
  ·obtain⟨b,off,spot⟩:=a
   have hc:=(hl2 0 h0).1.1;have hspot:spot=none:=by simpa[Addr.add]using World.cell?_spot hc
   subst hspot;refine⟨b,off,rfl,by simpa[Addr.add]using World.block_lt_of_cell? w _ hc,fun j hj=>?_⟩;rw[encX_length]at hj;obtain⟨k,hk⟩:∃k,k=j / 2:=⟨_,rfl⟩;have hkl:k<l.length:=by omega
   obtain⟨e1,e2⟩:=encX_at l k hkl;obtain⟨⟨h1,h2⟩,-⟩:=hl2 k hkl;rw[Addr.add_mid]at h1 h2;rw[getD_get l _ hkl]at e1 e2;rcases Nat.mod_two_eq_zero_or_one j with e|e
   ·obtain rfl:j=k*2:=by omega
    rw[h1,e1]
   ·obtain rfl:j=k*2+1:=by omega
    rw[h2,e2]
  ·rw[List.length_map]at hi
   rw[List.getElem_map];exact(hl2 i hi).2
theorem open_instrs3 {n:Nat} {v:Value} {x:DataW H×List MemPlace} (hf:DataW.trod enc Tryz.prog w base (fun _=>true) true n 22 [v]=some x):∃l:List (Nat×Nat),Instrs w v l:=by
 rcases open_slice_fields Tryz.underlying22 Tryz.underlying106 (by kernel_rfl) cells40 hf with⟨hcs,_⟩|⟨a,len0,cap0,m,D,Pl,hcs,_,hl,hm,hmm,hx,hi⟩
 ·simp at hcs
  subst hcs;exact⟨[],⟨Reads.nil w 2,fun i hi=>by cases hi⟩⟩
 ·simp at hcs
  subst hcs;rw[if_pos rfl]at hmm;subst hmm
  have key:∀i,i<len0→∃q:Nat×Nat,(w.cell? (a.add (i*2))=some (.int .u8 (q.1:Nat))∧w.cell? (a.add (i*2+1))=some (.int .u32 (q.2:Nat)))∧q.1<256∧q.2<4294967296:=by
   intro i hil;obtain⟨ys,n,_,_,_,hfs⟩:=hi i (by omega);obtain⟨v0,y0,hc0,_,t0⟩:=hfs 0 _ rfl;obtain⟨v1,y1,hc1,_,t1⟩:=hfs 1 _ rfl;obtain⟨x,e0,_,w0⟩:=DataW.trod_int Tryz.underlying104 t0;obtain⟨y,e1,_,w1⟩:=DataW.trod_int Tryz.underlying25 t1;simp at e0 e1;subst e0 e1;obtain⟨o,rfl,ho⟩:=u8_of w0;obtain⟨z,rfl,hz⟩:=u32_of w1;exact⟨(o,z),⟨hc0,hc1⟩,ho,hz⟩
  obtain⟨l,hll,hl2⟩:=choose_list len0 _ key;refine⟨l,⟨⟨some a,m,by rw[hll],encI_length l,by omega,hm,(fun h=>by cases h),fun h0=>?_⟩,fun i hi=>?_⟩⟩
  ·obtain⟨b,off,spot⟩:=a
   have hc:=(hl2 0 h0).1.1;have hspot:spot=none:=by simpa[Addr.add]using World.cell?_spot hc
   subst hspot;refine⟨b,off,rfl,by simpa[Addr.add]using World.block_lt_of_cell? w _ hc,fun j hj=>?_⟩;obtain⟨u,e,hR⟩:=encI_get l (fun j u=>w.cell? ((⟨b,off,none⟩:Addr).add j)=some u) (fun i hi=>(hl2 i hi).1.1) (fun i hi=>(hl2 i hi).1.2) j hj;rw[e,←hR,Addr.add_mid]
  ·obtain⟨k,hk,rfl⟩:=List.mem_iff_getElem.1 hi
   exact(hl2 k hk).2
theorem ocells126:Tryz.prog.cellsOf 31=7:=by kernel_rfl
theorem ocells40:Tryz.prog.cellsOf 29=1:=by kernel_rfl
theorem open_case {r:Reach} {b0:Nat} {v:Value} {d:DataW H} {p:List MemPlace} (hv:Value.okWide Tryz.prog w r b0 31 v) (h:DataW.Trod enc Tryz.prog w base (fun _=>true) true 31 v d p) :
 ∃(vc vj vd vn vg:Value) (m:Img) (gr:List (Nat×Int)),v=.agg #[vc,vj,vd,.int .u32 m.zero,.int .u32 m.stack,vn,vg]∧ImgAt w vc vj vd vn m∧GrantsAt w vg gr:=by
 obtain⟨cs,rfl,hsz⟩:=okWide_struct Tryz.underlying31 hv;rw[ocells126]at hsz;obtain⟨fuel,hf⟩:=h;obtain⟨xs,n,_,_,_,_,hg⟩:=DataW.trod_struct Tryz.underlying31 hf;have h0:=hg 0 _ rfl;have h1:=hg 1 _ rfl;have hcl:(Value.cells (.agg cs)).toList.length=7:=by simp[Value.cells,hsz]
 generalize hcs:(Value.cells (.agg cs)).toList=L at*;have hL:L=cs.toList:=by rw[←hcs];simp[Value.cells]
 obtain⟨a0,a1,a2,a3,a4,a5,a6,rfl⟩:∃a0 a1 a2 a3 a4 a5 a6,L=[a0,a1,a2,a3,a4,a5,a6]:=by
  match L,hcl with
  | [a0,a1,a2,a3,a4,a5,a6],_=>exact⟨a0,a1,a2,a3,a4,a5,a6,rfl⟩
 have h0':DataW.trod enc Tryz.prog w base (fun _=>true) true n 28 [a0,a1,a2,a3,a4,a5]=xs[0]?:=by
  have e:(([a0,a1,a2,a3,a4,a5,a6].drop 0).take (Tryz.prog.cellsOf 28))=[a0,a1,a2,a3,a4,a5]:=by rw[ocells28];rfl
  rw[←e];exact h0
 have h1':DataW.trod enc Tryz.prog w base (fun _=>true) true n 29 [a6]=xs[1]?:=by
  have e:(([a0,a1,a2,a3,a4,a5,a6].drop 6).take (Tryz.prog.cellsOf 29))=[a6]:=by rw[ocells40];rfl
  rw[←e];exact h1
 have hl2:xs.length=2:=by assumption
 rw[List.getElem?_eq_getElem (show 0<xs.length by omega)]at h0';rw[List.getElem?_eq_getElem (show 1<xs.length by omega)]at h1';obtain⟨gr,hgr⟩:=open_grants2 h1';obtain⟨ys,n2,_,_,_,hyl,hg2⟩:=DataW.trod_struct Tryz.underlying28 h0';have get:∀(j:Nat) (f:Field) (u:Value),Tryz.prog.underlying 28=some (.struct #[])∨True→∀(t:TypeId) (k:Nat),True→True:=fun _ _ _ _ _ _ _=>trivial;have hj:∀(j:Nat) (hjl:j<ys.length),ys[j]?=some ys[j]:=fun j hjl=>List.getElem?_eq_getElem hjl;have hy6:ys.length=6:=hyl;have t0:=(show DataW.trod enc Tryz.prog w base (fun _=>true) true n2 22 [a0]=ys[0]? from hg2 0 _ rfl).trans (hj 0 (by omega));have t1:=(show DataW.trod enc Tryz.prog w base (fun _=>true) true n2 23 [a1]=ys[1]? from hg2 1 _ rfl).trans (hj 1 (by omega));have t2:=(show DataW.trod enc Tryz.prog w base (fun _=>true) true n2 24 [a2]=ys[2]? from hg2 2 _ rfl).trans (hj 2 (by omega));have t3:=(show DataW.trod enc Tryz.prog w base (fun _=>true) true n2 25 [a3]=ys[3]? from hg2 3 _ rfl).trans (hj 3 (by omega));have t4:=(show DataW.trod enc Tryz.prog w base (fun _=>true) true n2 25 [a4]=ys[4]? from hg2 4 _ rfl).trans (hj 4 (by omega));have t5:=(show DataW.trod enc Tryz.prog w base (fun _=>true) true n2 26 [a5]=ys[5]? from hg2 5 _ rfl).trans (hj 5 (by omega));obtain⟨code,hc⟩:=open_instrs3 t0;obtain⟨js,hjs⟩:=open_words3 t1;obtain⟨data,hdt⟩:=open_bytes3 t2;obtain⟨lx,hn⟩:=open_names3 t5;obtain⟨x3,f3,_,w3⟩:=DataW.trod_int Tryz.underlying25 t3;obtain⟨x4,f4,_,w4⟩:=DataW.trod_int Tryz.underlying25 t4;simp at f3 f4;subst f3 f4;obtain⟨z,rfl,hz⟩:=u32_of w3;obtain⟨s,rfl,hst⟩:=u32_of w4;refine⟨a0,a1,a2,a5,a6,⟨code,js,data,z,s,lx⟩,gr,?_,⟨hc,hjs,hdt,hn,hz,hst⟩,hgr⟩;congr 1;exact Array.toList_inj.1 (by rw[←hL])
theorem open_wds {r:Reach} {b0:Nat} {v:Value} {d:DataW H} {p:List MemPlace} (hv:Value.okWide Tryz.prog w r b0 23 v) (h:DataW.Trod enc Tryz.prog w base (fun _=>true) true 23 v d p):∃l:List Nat,Words w v l:=by
 obtain⟨fuel,hf⟩:=h;obtain⟨a,n,c,rfl⟩:=okWide_slice Tryz.underlying23 hv;exact open_words3 hf
theorem open_reps {r:Reach} {b0:Nat} {v:Value} {d:DataW H} {p:List MemPlace} (hv:Value.okWide Tryz.prog w r b0 32 v) (h:DataW.Trod enc Tryz.prog w base (fun _=>true) true 32 v d p):∃rs:List Rep,RepsAt w v rs:=by
 obtain⟨fuel,hf⟩:=h;obtain⟨a,n,c,rfl⟩:=okWide_slice Tryz.underlying32 hv;exact open_replies2 hf
end
end Go.Proofs.YtdffaepbkecoeaaGreat
