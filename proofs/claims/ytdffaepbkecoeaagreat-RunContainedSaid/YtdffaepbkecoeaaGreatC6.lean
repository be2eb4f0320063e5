import Derived.Test.YtdffaepbkecoeaaGreatC5
import Derived.Laws.EntriesVeiled
set_option maxRecDepth 100000
set_option maxHeartbeats 8000000
namespace Go.Proofs.YtdffaepbkecoeaaGreat
open Go.RowKit
set_option linter.unusedVariables false
set_option linter.unusedSimpArgs false
theorem info64:(Tryz.prog.info? 44).map (·.size)=some 11:=by kernel_rfl
theorem size64 (a b c d e f g h i j k:Value):(Tryz.prog.info? 44).map (·.size)=some (#[a,b,c,d,e,f,g,h,i,j,k]:Array Value).size:=info64
theorem zero64 (w:World):(zeroValue 44).run Tryz.prog w=.ok (.agg #[.int .u8 0,.int .u32 0,.int .u32 0,.int .u8 0,.int .i64 0,.int .i64 0,.slice none 0 0,.int .u32 0,.int .u32 0,.slice none 0 0,.int .u32 0]) w:=by kernel_rfl
theorem run_b64a (x y:Int) (w:World):(Instr.build 44 #[(0,.int .u8 1),(1,.int .u32 x),(2,.int .u32 y)]).run Tryz.prog w=.ok (.agg #[.int .u8 1,.int .u32 x,.int .u32 y,.int .u8 0,.int .i64 0,.int .i64 0,.slice none 0 0,.int .u32 0,.int .u32 0,.slice none 0 0,.int .u32 0]) w:=by kernel_rfl
theorem run_b64b (x y:Int) (w:World):(Instr.build 44 #[(0,.int .u8 2),(1,.int .u32 x),(3,.int .u8 y)]).run Tryz.prog w=.ok (.agg #[.int .u8 2,.int .u32 x,.int .u32 0,.int .u8 y,.int .i64 0,.int .i64 0,.slice none 0 0,.int .u32 0,.int .u32 0,.slice none 0 0,.int .u32 0]) w:=by kernel_rfl
theorem run_b64c (w:World):(Instr.build 44 #[(0,.int .u8 0)]).run Tryz.prog w=.ok (.agg #[.int .u8 0,.int .u32 0,.int .u32 0,.int .u8 0,.int .i64 0,.int .i64 0,.slice none 0 0,.int .u32 0,.int .u32 0,.slice none 0 0,.int .u32 0]) w:=by kernel_rfl
def restE (s:St):Nat:=if s.life=2 then 1 else if s.life=3 then 2 else 0
def restP (s:St):Nat:=if s.life=2 then s.pc else if s.life=3 then s.pc else 0
def restS (s:St):Nat:=if s.life=2 then s.value else 0
def restF (s:St):Nat:=if s.life=2 then 0 else if s.life=3 then s.fault else 0
def restRow (s:St):Array Value:=#[.int .u8 (restE s),.int .u32 (restP s),.int .u32 (restS s),.int .u8 (restF s),.int .i64 0,.int .i64 0,.slice none 0 0,.int .u32 0,.int .u32 0,.slice none 0 0,.int .u32 0]
theorem results_cell_rest {P:Program} {fn:Func} {p:Tmp} {ty:TypeId} (h:fn.results=#[.cell p ty]) (tmps:Array Value) (w:World) (g:Nat) (t:TypeId) (cs:Array Value) (fr:Nat×Nat) (d:TypeDesc)
 (hp:tmps.getD p undef=.pointer (some ⟨g,0,none⟩)) (hg:w.heap[g]?=some (.cells cs t fr))
 (hu:P.underlying ty=some d) (hd:(match d with|.struct _|.array _ _=>true|_=>false)=true) (hi:(P.info? ty).map (·.size)=some cs.size) :
 (results fn tmps).run P w=.ok (.agg cs) w:=by
 have hp':tmps[p]?.getD undef=.pointer (some ⟨g,0,none⟩):=by simpa using hp
 simp[results,h,hp',asAddr,run_loadVar_row w g t ty cs fr d hg hu hd hi]
section
variable {w:World} {b:Nat} {K:MacK} {V:MacV}
theorem MacB.cells70 (h:MacB w b K V):w.cell? ⟨b,70,none⟩=some (.int .u32 V.value)∧w.cell? ⟨b,71,none⟩=some (.int .u8 V.fault):=by
 obtain⟨cs,h,r⟩:=h;exact⟨(cell_of_row w b 70 _ _ _ h).trans r.c70,(cell_of_row w b 71 _ _ _ h).trans r.c71⟩
theorem rest_two (h:MacB w b K V) (hlife:V.life=2) :
 Calls Tryz.prog 27 #[.pointer (some ⟨b,0,none⟩)] w fun e w'=>e=.returned (.agg #[.int .u8 1,.int .u32 V.pc,.int .u32 V.value,.int .u8 0,.int .i64 0,.int .i64 0,.slice none 0 0,.int .u32 0,.int .u32 0,.slice none 0 0,.int .u32 0])∧Below w.heap.size w w':=by
 have hmx:Tryz.prog.follows .mixedOrders=true:=by kernel_rfl
 have hz:=zero64;have hba:=run_b64a;have hbb:=run_b64b;have hbc:=run_b64c;have kk66:=h.cells.c66;have kk67:=h.cells.c67;obtain⟨kk70,kk71⟩:=h.cells70;have hbl:=h.lt;obtain⟨W1,hW1⟩:∃W1,W1=w.alloc (.cells #[.int .u8 0,.int .u32 0,.int .u32 0,.int .u8 0,.int .i64 0,.int .i64 0,.slice none 0 0,.int .u32 0,.int .u32 0,.slice none 0 0,.int .u32 0] 44):=⟨_,rfl⟩;have hb0:Below w.heap.size w W1:=by rw[hW1];exact Bel.new w _
 have hb1:Below w.heap.size w W1.drew:=hb0.drew;have hr1:W1.drew.heap[w.heap.size]?=some (.cells #[.int .u8 0,.int .u32 0,.int .u32 0,.int .u8 0,.int .i64 0,.int .i64 0,.slice none 0 0,.int .u32 0,.int .u32 0,.slice none 0 0,.int .u32 0] 44 (0,0)):=by rw[hW1];exact heap_alloc_new w _
 have k66:(w.alloc (.cells #[.int .u8 0,.int .u32 0,.int .u32 0,.int .u8 0,.int .i64 0,.int .i64 0,.slice none 0 0,.int .u32 0,.int .u32 0,.slice none 0 0,.int .u32 0] 44)).cell? ⟨b,66,none⟩=some (.int .u8 V.life):=by rw[←hW1];exact(hb0.cell (p:=⟨b,66,none⟩) hbl).trans kk66
 have k67:=(hb1.cell (p:=⟨b,67,none⟩) hbl).trans kk67;have k70:=(hb1.cell (p:=⟨b,70,none⟩) hbl).trans kk70;have k71:=(hb1.cell (p:=⟨b,71,none⟩) hbl).trans kk71;clear h;go_enter Tryz.func27,Tryz.ntmps27;have hl:=hlife;rw[hlife]at k66;have hHeld0:((W1.drew.cell? ⟨b,67,none⟩=some (.int .u32 V.pc)∧W1.drew.cell? ⟨b,70,none⟩=some (.int .u32 V.value))):=⟨k67,k70⟩;clear k66 k67 k70 k71;go_wp2_with fail;rw[←hW1];clear hW1;refine wp_region_held_drew (S:=fun W=>((W.cell? ⟨b,67,none⟩=some (.int .u32 V.pc)∧W.cell? ⟨b,70,none⟩=some (.int .u32 V.value)))) hmx hHeld0 (fun hHeld=>?_);refine tk 0 hHeld ?_;refine tk 1 hHeld ?_;refine tk 2 hHeld ?_;refine tk 3 hHeld ?_;refine tk 4 hHeld ?_;refine tk 5 hHeld ?_;refine tk 6 hHeld ?_;refine tk 7 hHeld ?_;refine tk 8 hHeld ?_;refine rd 9 ⟨none,.store 44 (.tmp 2) (.tmp 17),_,_,_,none⟩ fun K hK=>?_;rw[if_pos (by rfl)];refine outs_wp (R:=fun v W'=>v=undef∧W'=W1.drew.setRow w.heap.size #[.int .u8 1,.int .u32 V.pc,.int .u32 V.value,.int .u8 0,.int .i64 0,.int .i64 0,.slice none 0 0,.int .u32 0,.int .u32 0,.slice none 0 0,.int .u32 0]) (outs_store_row 44 (.tmp 2) (.tmp 17) rfl w.heap.size _ rfl rfl 44 _ hr1 info64 (by rfl) (by simp[Value.oneCell']) ⟨rfl,rfl⟩) ?_;rintro _ _⟨rfl,rfl⟩;have hf:Below w.heap.size w (W1.drew.setRow w.heap.size #[.int .u8 1,.int .u32 V.pc,.int .u32 V.value,.int .u8 0,.int .i64 0,.int .i64 0,.slice none 0 0,.int .u32 0,.int .u32 0,.slice none 0 0,.int .u32 0]):=below_setRow hb1 _ (Nat.le_refl _) _;have hr:(W1.drew.setRow w.heap.size #[.int .u8 1,.int .u32 V.pc,.int .u32 V.value,.int .u8 0,.int .i64 0,.int .i64 0,.slice none 0 0,.int .u32 0,.int .u32 0,.slice none 0 0,.int .u32 0]).heap[w.heap.size]?=some (.cells #[.int .u8 1,.int .u32 V.pc,.int .u32 V.value,.int .u8 0,.int .i64 0,.int .i64 0,.slice none 0 0,.int .u32 0,.int .u32 0,.slice none 0 0,.int .u32 0] 44 (0,0)):=setRow_heap _ _ _ _ _ _ hr1;obtain⟨W2,hW2⟩:∃W2,W2=W1.drew.setRow w.heap.size #[.int .u8 1,.int .u32 V.pc,.int .u32 V.value,.int .u8 0,.int .i64 0,.int .i64 0,.slice none 0 0,.int .u32 0,.int .u32 0,.slice none 0 0,.int .u32 0]:=⟨_,rfl⟩;rw[←hW2]at hf hr⊢;clear hW2;have hH2:((W2.cell? ⟨b,67,none⟩=some (.int .u32 V.pc)∧W2.cell? ⟨b,70,none⟩=some (.int .u32 V.value))):=⟨(hf.cell (p:=⟨b,67,none⟩) hbl).trans kk67,(hf.cell (p:=⟨b,70,none⟩) hbl).trans kk70⟩;refine hK.out _ _ hH2 (fun _=>?_);clear hK K
 try simp only[Act.put,aT,aZ,aS]
 refine wpAnyH_done (by kernel_rfl) ?_ _;have HF:=Lib.hid hf;have HR:=Lib.hid hr;clear hf hr hH2 hHeld hHeld0 hr1 hb1 kk67 kk70 kk71;go_wp2_with fail;refine bodyPost_ret (v:=.agg #[.int .u8 1,.int .u32 V.pc,.int .u32 V.value,.int .u8 0,.int .i64 0,.int .i64 0,.slice none 0 0,.int .u32 0,.int .u32 0,.slice none 0 0,.int .u32 0]) (results_cell_rest Tryz.results27 _ _ w.heap.size 44 _ (0,0) _ rfl HR.out Tryz.underlying44 rfl (size64 _ _ _ _ _ _ _ _ _ _ _)) rfl ?_;exact⟨rfl,HF.out⟩
theorem rest_three (h:MacB w b K V) (hlife:V.life=3) :
 Calls Tryz.prog 27 #[.pointer (some ⟨b,0,none⟩)] w fun e w'=>e=.returned (.agg #[.int .u8 2,.int .u32 V.pc,.int .u32 0,.int .u8 V.fault,.int .i64 0,.int .i64 0,.slice none 0 0,.int .u32 0,.int .u32 0,.slice none 0 0,.int .u32 0])∧Below w.heap.size w w':=by
 have hmx:Tryz.prog.follows .mixedOrders=true:=by kernel_rfl
 have hz:=zero64;have hba:=run_b64a;have hbb:=run_b64b;have hbc:=run_b64c;have kk66:=h.cells.c66;have kk67:=h.cells.c67;obtain⟨kk70,kk71⟩:=h.cells70;have hbl:=h.lt;obtain⟨W1,hW1⟩:∃W1,W1=w.alloc (.cells #[.int .u8 0,.int .u32 0,.int .u32 0,.int .u8 0,.int .i64 0,.int .i64 0,.slice none 0 0,.int .u32 0,.int .u32 0,.slice none 0 0,.int .u32 0] 44):=⟨_,rfl⟩;have hb0:Below w.heap.size w W1:=by rw[hW1];exact Bel.new w _
 have hb1:Below w.heap.size w W1.drew:=hb0.drew;have hr1:W1.drew.heap[w.heap.size]?=some (.cells #[.int .u8 0,.int .u32 0,.int .u32 0,.int .u8 0,.int .i64 0,.int .i64 0,.slice none 0 0,.int .u32 0,.int .u32 0,.slice none 0 0,.int .u32 0] 44 (0,0)):=by rw[hW1];exact heap_alloc_new w _
 have k66:(w.alloc (.cells #[.int .u8 0,.int .u32 0,.int .u32 0,.int .u8 0,.int .i64 0,.int .i64 0,.slice none 0 0,.int .u32 0,.int .u32 0,.slice none 0 0,.int .u32 0] 44)).cell? ⟨b,66,none⟩=some (.int .u8 V.life):=by rw[←hW1];exact(hb0.cell (p:=⟨b,66,none⟩) hbl).trans kk66
 have k67:=(hb1.cell (p:=⟨b,67,none⟩) hbl).trans kk67;have k70:=(hb1.cell (p:=⟨b,70,none⟩) hbl).trans kk70;have k71:=(hb1.cell (p:=⟨b,71,none⟩) hbl).trans kk71;clear h;go_enter Tryz.func27,Tryz.ntmps27;have hl:=hlife;rw[hlife]at k66;have hHeld0:((W1.drew.cell? ⟨b,67,none⟩=some (.int .u32 V.pc)∧W1.drew.cell? ⟨b,71,none⟩=some (.int .u8 V.fault))):=⟨k67,k71⟩;clear k66 k67 k70 k71;go_wp2_with fail;rw[←hW1];clear hW1;refine wp_region_held_drew (S:=fun W=>((W.cell? ⟨b,67,none⟩=some (.int .u32 V.pc)∧W.cell? ⟨b,71,none⟩=some (.int .u8 V.fault)))) hmx hHeld0 (fun hHeld=>?_);refine tk 0 hHeld ?_;refine tk 1 hHeld ?_;refine tk 2 hHeld ?_;refine tk 3 hHeld ?_;refine tk 4 hHeld ?_;refine tk 5 hHeld ?_;refine tk 6 hHeld ?_;refine tk 7 hHeld ?_;refine tk 8 hHeld ?_;refine rd 9 ⟨none,.store 44 (.tmp 2) (.tmp 28),_,_,_,none⟩ fun K hK=>?_;rw[if_pos (by rfl)];refine outs_wp (R:=fun v W'=>v=undef∧W'=W1.drew.setRow w.heap.size #[.int .u8 2,.int .u32 V.pc,.int .u32 0,.int .u8 V.fault,.int .i64 0,.int .i64 0,.slice none 0 0,.int .u32 0,.int .u32 0,.slice none 0 0,.int .u32 0]) (outs_store_row 44 (.tmp 2) (.tmp 28) rfl w.heap.size _ rfl rfl 44 _ hr1 info64 (by rfl) (by simp[Value.oneCell']) ⟨rfl,rfl⟩) ?_;rintro _ _⟨rfl,rfl⟩;have hf:Below w.heap.size w (W1.drew.setRow w.heap.size #[.int .u8 2,.int .u32 V.pc,.int .u32 0,.int .u8 V.fault,.int .i64 0,.int .i64 0,.slice none 0 0,.int .u32 0,.int .u32 0,.slice none 0 0,.int .u32 0]):=below_setRow hb1 _ (Nat.le_refl _) _;have hr:(W1.drew.setRow w.heap.size #[.int .u8 2,.int .u32 V.pc,.int .u32 0,.int .u8 V.fault,.int .i64 0,.int .i64 0,.slice none 0 0,.int .u32 0,.int .u32 0,.slice none 0 0,.int .u32 0]).heap[w.heap.size]?=some (.cells #[.int .u8 2,.int .u32 V.pc,.int .u32 0,.int .u8 V.fault,.int .i64 0,.int .i64 0,.slice none 0 0,.int .u32 0,.int .u32 0,.slice none 0 0,.int .u32 0] 44 (0,0)):=setRow_heap _ _ _ _ _ _ hr1;obtain⟨W2,hW2⟩:∃W2,W2=W1.drew.setRow w.heap.size #[.int .u8 2,.int .u32 V.pc,.int .u32 0,.int .u8 V.fault,.int .i64 0,.int .i64 0,.slice none 0 0,.int .u32 0,.int .u32 0,.slice none 0 0,.int .u32 0]:=⟨_,rfl⟩;rw[←hW2]at hf hr⊢;clear hW2;have hH2:((W2.cell? ⟨b,67,none⟩=some (.int .u32 V.pc)∧W2.cell? ⟨b,71,none⟩=some (.int .u8 V.fault))):=⟨(hf.cell (p:=⟨b,67,none⟩) hbl).trans kk67,(hf.cell (p:=⟨b,71,none⟩) hbl).trans kk71⟩;refine hK.out _ _ hH2 (fun _=>?_);clear hK K
 try simp only[Act.put,aT,aZ,aS]
 refine wpAnyH_done (by kernel_rfl) ?_ _;have HF:=Lib.hid hf;have HR:=Lib.hid hr;clear hf hr hH2 hHeld hHeld0 hr1 hb1 kk67 kk70 kk71;go_wp2_with fail;refine bodyPost_ret (v:=.agg #[.int .u8 2,.int .u32 V.pc,.int .u32 0,.int .u8 V.fault,.int .i64 0,.int .i64 0,.slice none 0 0,.int .u32 0,.int .u32 0,.slice none 0 0,.int .u32 0]) (results_cell_rest Tryz.results27 _ _ w.heap.size 44 _ (0,0) _ rfl HR.out Tryz.underlying44 rfl (size64 _ _ _ _ _ _ _ _ _ _ _)) rfl ?_;exact⟨rfl,HF.out⟩
theorem rest_one (h:MacB w b K V) (h2:V.life≠2) (h3:V.life≠3) :
 Calls Tryz.prog 27 #[.pointer (some ⟨b,0,none⟩)] w fun e w'=>e=.returned (.agg #[.int .u8 0,.int .u32 0,.int .u32 0,.int .u8 0,.int .i64 0,.int .i64 0,.slice none 0 0,.int .u32 0,.int .u32 0,.slice none 0 0,.int .u32 0])∧Below w.heap.size w w':=by
 have hmx:Tryz.prog.follows .mixedOrders=true:=by kernel_rfl
 have hz:=zero64;have hba:=run_b64a;have hbb:=run_b64b;have hbc:=run_b64c;have kk66:=h.cells.c66;have kk67:=h.cells.c67;obtain⟨kk70,kk71⟩:=h.cells70;have hbl:=h.lt;obtain⟨W1,hW1⟩:∃W1,W1=w.alloc (.cells #[.int .u8 0,.int .u32 0,.int .u32 0,.int .u8 0,.int .i64 0,.int .i64 0,.slice none 0 0,.int .u32 0,.int .u32 0,.slice none 0 0,.int .u32 0] 44):=⟨_,rfl⟩;have hb0:Below w.heap.size w W1:=by rw[hW1];exact Bel.new w _
 have hb1:Below w.heap.size w W1.drew:=hb0.drew;have hr1:W1.drew.heap[w.heap.size]?=some (.cells #[.int .u8 0,.int .u32 0,.int .u32 0,.int .u8 0,.int .i64 0,.int .i64 0,.slice none 0 0,.int .u32 0,.int .u32 0,.slice none 0 0,.int .u32 0] 44 (0,0)):=by rw[hW1];exact heap_alloc_new w _
 have k66:(w.alloc (.cells #[.int .u8 0,.int .u32 0,.int .u32 0,.int .u8 0,.int .i64 0,.int .i64 0,.slice none 0 0,.int .u32 0,.int .u32 0,.slice none 0 0,.int .u32 0] 44)).cell? ⟨b,66,none⟩=some (.int .u8 V.life):=by rw[←hW1];exact(hb0.cell (p:=⟨b,66,none⟩) hbl).trans kk66
 have k67:=(hb1.cell (p:=⟨b,67,none⟩) hbl).trans kk67;have k70:=(hb1.cell (p:=⟨b,70,none⟩) hbl).trans kk70;have k71:=(hb1.cell (p:=⟨b,71,none⟩) hbl).trans kk71;clear h;go_enter Tryz.func27,Tryz.ntmps27;have e2:¬((V.life:Nat):Int)=2:=by omega
 have e3:¬((V.life:Nat):Int)=3:=by omega
 clear k67 k70 k71 kk67 kk70 kk71 kk66 hb1 hr1 hb0 hW1;go_wp2_with fail;refine bodyPost_ret (v:=.agg #[.int .u8 0,.int .u32 0,.int .u32 0,.int .u8 0,.int .i64 0,.int .i64 0,.slice none 0 0,.int .u32 0,.int .u32 0,.slice none 0 0,.int .u32 0]) (results_cell_rest Tryz.results27 _ _ w.heap.size 44 _ (0,0) _ rfl (heap_alloc_new w _) Tryz.underlying44 rfl (size64 _ _ _ _ _ _ _ _ _ _ _)) rfl ?_;exact⟨rfl,Bel.new w _⟩
theorem mrest_any {s:St} {vo:Value} {R:MacR} (h:MacB w b K (macV s vo R)) :
 Calls Tryz.prog 27 #[.pointer (some ⟨b,0,none⟩)] w fun e w'=>e=.returned (.agg (restRow s))∧Below w.heap.size w w':=by
 unfold restRow restE restP restS restF;by_cases h2:s.life=2
 ·simp only[if_pos h2]
  exact rest_two h h2
 ·by_cases h3:s.life=3
  ·simp only[if_neg h2,if_pos h3]
   exact rest_three h h3
  ·simp only[if_neg h2,if_neg h3]
   exact rest_one h h2 h3
end
open Go
section
variable {s:St} {mo:Mo}
theorem wfI {α:Type} {c:Prop} [Decidable c] {p q:St×α} (hp:Wf p.1) (hq:Wf q.1):Wf (if c then p else q).1:=by
 by_cases h:c
 ·rw[if_pos h];exact hp
 ·rw[if_neg h];exact hq
theorem Wf.drops (h:Wf s) (i:Nat):∀x∈s.drops i,x<4294967296:=fun x hx=>h.ops x (List.mem_of_mem_take hx)
theorem Wf.push (h:Wf s) (i:Nat) {y:Nat} (hy:y<4294967296):∀x∈s.drops i++[y],x<4294967296:=fun x hx=>by
 rcases List.mem_append.1 hx with h1|h1
 ·exact h.drops i x h1
 ·rw[List.mem_singleton.1 h1];exact hy
theorem Wf.put (h:Wf s) {y:Nat} (hy:y<4294967296):∀x∈s.ops++[y],x<4294967296:=fun x hx=>by
 rcases List.mem_append.1 hx with h1|h1
 ·exact h.ops x h1
 ·rw[List.mem_singleton.1 h1];exact hy
theorem Wf.top (h:Wf s) (i:Nat):topW s i<4294967296:=by
 unfold topW;by_cases hi:s.ops.length - 1 - i<s.ops.length
 ·rw[List.getD_eq_getElem?_getD,List.getElem?_eq_getElem hi]
  exact h.ops _ (List.getElem_mem hi)
 ·rw[List.getD_eq_getElem?_getD,List.getElem?_eq_none (by omega)]
  decide
theorem wfMk {s':St} (h1:∀x∈s'.ops,x<4294967296) (h2:s'.sp<4294967296) (h3:s'.value<4294967296):Wf s':=⟨h1,h2,h3⟩
theorem wfP {α:Type} {s':St} {l:α} (h:Wf s'):Wf (s',l).1:=h
theorem Wf.flt (h:Wf s) (f:Nat):Wf (s.flt f):=⟨h.ops,h.sp,h.v⟩
theorem Wf.leave (h:Wf s) (a:Nat):Wf (leaveM mo a s).1:=by
 have hm:=Nat.mod_lt (s.sp+a) (show 0<4294967296 by decide);unfold leaveM;generalize hx:(s.sp+a)%4294967296=x at hm⊢;generalize loadN s.data x 4=y;generalize touN mo.size x 4 false=l;generalize (4294967295:Nat)=k;refine wfI (wfP (h.flt 6)) (wfI (wfP (wfMk ?_ ?_ ?_)) (wfI (wfP (h.flt 7)) (wfI (wfP (h.flt 5)) (wfP (wfMk ?_ ?_ ?_)))))
 ·exact h.drops 1
 ·exact hm
 ·exact h.top 0
 ·exact h.ops
 ·exact hm
 ·exact h.v
theorem Wf.call (h:Wf s):Wf (callM mo s).1:=by
 unfold callM;generalize topW s 0=y;generalize storeN s.data s.sp (s.pc+1) 4=d;generalize touN mo.size s.sp 4 true=l;refine wfI (wfP (h.flt 4)) (wfI (wfP (h.flt 5)) (wfP (wfMk ?_ ?_ ?_)))
 ·exact h.drops 1
 ·exact h.sp
 ·exact h.v
theorem Wf.act (h:Wf s) (hd:∀x∈s.data,x<256) (o:Nat) {a:Nat} (ha:a<4294967296):Wf (actM mo o a s).1:=by
 have hm:=Nat.mod_lt (s.sp+a) (show 0<4294967296 by decide);have h3:s.sp - a<4294967296:=by have:=h.sp;omega
 have ht:=h.top;unfold actM;refine wfI ⟨h.ops,h.sp,h.v⟩ (wfI ⟨h.ops,h.sp,h.v⟩ (wfI (wfI ⟨h.ops,h.sp,h.v⟩ ⟨h.ops,h3,h.v⟩) (wfI (h.leave a) (wfI h.call (wfI ⟨h.ops,h.sp,h.v⟩ (wfI (wfI ⟨h.drops 1,h.sp,h.v⟩ ⟨h.ops,h.sp,h.v⟩) (wfI ⟨h.put ha,h.sp,h.v⟩ (wfI ⟨h.put hm,h.sp,h.v⟩ (wfI ⟨h.drops 1,h.sp,h.v⟩ (wfI ⟨h.put (ht 0),h.sp,h.v⟩ (wfI ⟨h.drops 1,h.sp,h.v⟩ (wfI ⟨h.drops 2,h.sp,h.v⟩ ?_))))))))))));by_cases h31:o≤31
 ·rw[if_pos h31]
  refine⟨h.push 1 ?_,h.sp,h.v⟩;have hk:2 ^ (o - 29)≤4:=Nat.pow_le_pow_right (n:=2) (by decide) (show o - 29≤2 by omega);have h1:=loadN_lt hd (topW s 0) (2 ^ (o - 29)) hk;have h2:(256:Nat) ^ 2 ^ (o - 29)≤256 ^ 4:=Nat.pow_le_pow_right (by decide) hk;omega
 ·rw[if_neg h31]
  exact wfI ⟨h.drops 2,h.sp,h.v⟩ (wfI ⟨h.drops 2,h.sp,h.v⟩ (wfI ⟨h.push 1 (unW_lt _ _),h.sp,h.v⟩ (wfI ⟨h.ops,h.sp,h.v⟩ ⟨h.push 2 (biR_lt _ _ _ (ht 1)),h.sp,h.v⟩)))
theorem Wf.step (h:Wf s) (hd:∀x∈s.data,x<256) {gr:List (Nat×Int)} {reps:List Rep} (hr:∀r∈reps,r.val<4294967296) (ha:argAt mo.im.code s.pc<4294967296):Wf (stepM mo gr reps s).st:=by
 unfold stepM
 split
 ·exact h.act hd _ ha
 ·split
  ·exact⟨h.push 1 (hr _ List.mem_cons_self),h.sp,h.v⟩
  ·exact⟨h.ops,h.sp,h.v⟩
theorem stepM_reps {gr:List (Nat×Int)} {reps:List Rep}:∀r∈(stepM mo gr reps s).reps,r∈reps:=by
 unfold stepM
 split
 ·exact fun r h=>h
 ·split
  ·exact fun r h=>List.mem_cons_of_mem _ h
  ·exact fun r h=>h
end
section
variable {w0 w w':World} {b:Nat} {K:MacK} {s:St} {vo vo':Value} {R R':MacR} {M:MemK} {vt vt':Value} {evs evs':List (Ev×Value)} {lg lg':List (Nat×Bool)} {gr:List (Nat×Int)} {mb:Nat} {m:Img} {reps:List Rep}
theorem RepsAt.vals {v:Value} (h:RepsAt w v reps):∀r∈reps,r.val<4294967296:=by
 obtain⟨_,_,_,_,_,h,_⟩:=h;exact h
theorem AH.next (H:AH w0 w b K s vo R M vt R.on [] evs lg gr mb m reps) (hl:(stepM (moOf m) gr reps s).st.life=1)
 (hX:MachX w' b K (stepM (moOf m) gr reps s).st vo' R' M vt' R.on [] evs' lg') (hr:RepsS w' (allF b vo' R' M vt') R'.replies (stepM (moOf m) gr reps s).reps) (ho:R'.on=R.on) (hf:Fr w w' (allF b vo R M vt) (allF b vo' R' M vt')) :
 AH w0 w' b K (stepM (moOf m) gr reps s).st vo' R' M vt' R'.on [] evs' lg' gr mb m (stepM (moOf m) gr reps s).reps:=
 ⟨H.st,by rw[ho];exact hX,H.home.fr hf,H.wf.step H.x.m.mem.lt H.rep.vals H.f.ha9,hl,(moOk H.st.mod.k).stp H.l1 H.fit gr reps,hr⟩
theorem repsFit_step {mo:Mo} (h:repsFit reps=true):repsFit (stepM mo gr reps s).reps=true:=by
 unfold repsFit at h⊢;rw[List.all_eq_true]at h⊢;exact fun r hr=>h r (stepM_reps r hr)
theorem stepM_ev1 {mo:Mo}:(stepM mo gr reps s).ev.length≤1:=by
 unfold stepM
 split
 ·exact Nat.zero_le _
 ·split
  ·exact Nat.le_refl _
  ·exact Nat.zero_le _
theorem goM_more {mo:Mo} {f:Nat} (h1:s.life=1) (h2:waitsM mo gr reps s=none):goM mo gr (f+1) reps s=(goM mo gr f (stepM mo gr reps s).reps (stepM mo gr reps s).st).behind (stepM mo gr reps s):=by
 rw[goM,if_pos ⟨h1,h2⟩]
theorem goM_still {mo:Mo} {f:Nat} (h1:s.life≠1):goM mo gr f reps s=⟨s,[],[],reps,0,none⟩:=by
 cases f with
 | zero=>rw[goM,if_neg h1]
 | succ f=>rw[goM,if_neg (fun e=>h1 e.1),if_neg h1]
theorem goM_asks {mo:Mo} {f:Nat} {ev:Ev} (h1:s.life=1) (h2:waitsM mo gr reps s=some ev):goM mo gr f reps s=⟨s,[],[],reps,0,some ev⟩:=by
 cases f with
 | zero=>rw[goM,if_pos h1,h2]
 | succ f=>rw[goM,if_neg (fun e=>by rw[h2]at e;cases e.2),if_pos h1,h2]
theorem goM_zero {mo:Mo} (h2:waitsM mo gr reps s=none):goM mo gr 0 reps s=⟨s,[],[],reps,0,none⟩:=by
 rw[goM,h2];by_cases h:s.life=1
 ·rw[if_pos h]
 ·rw[if_neg h]
def GoR.after (t:List (Nat×Bool)) (e:List Ev) (u:Nat) (r:GoR):GoR:=⟨r.st,t++r.tou,e++r.ev,r.reps,u+r.used,r.ask⟩
theorem after_nil (r:GoR):r.after [] [] 0=r:=by
 unfold GoR.after;rw[List.nil_append,List.nil_append,Nat.zero_add]
theorem after_behind (t:List (Nat×Bool)) (e:List Ev) (u:Nat) (p:Stp) (r:GoR):(GoR.behind p r).after t e u=r.after (t++p.tou) (e++p.ev) (u+1):=by
 unfold GoR.after GoR.behind;simp only[List.append_assoc];rw[show u+(r.used+1)=u+1+r.used from by omega]
end
theorem run_b64d (x y a0 a1 a3:Int) (aa:Option Addr) (an ac:Nat) (w:World):(Instr.build 44 #[(0,.int .u8 x),(1,.int .u32 y),(7,.agg #[.int .u32 a0,.int .u32 a1,.slice aa an ac,.int .u32 a3])]).run Tryz.prog w=.ok (.agg #[.int .u8 x,.int .u32 y,.int .u32 0,.int .u8 0,.int .i64 0,.int .i64 0,.slice none 0 0,.int .u32 a0,.int .u32 a1,.slice aa an ac,.int .u32 a3]) w:=by kernel_rfl
section
variable {w:World} {b:Nat} {K:MacK} {V:MacV}
theorem run_storeVar_at {P:Program} (w:World) (b o:Nat) (ty:TypeId) (v x:Value) (hc:w.cell? ⟨b,o,none⟩=some x) (hz:w.frozen? ⟨b,o,none⟩=false) (hi:(P.info? ty).map (·.size)=some 1) (h1:v.oneCell'=true) :
 (storeVar ty ⟨b,o,none⟩ v).run P w=.ok () (w.setCell ⟨b,o,none⟩ v):=by
 have:=run_storeCells_cells (P:=P) b o [v] 0 w (fun j hj=>by simp at hj;subst hj;simp[hc]) (fun j hj=>by simp at hj;subst hj;simpa using hz) (fun y hy=>by simp at hy;subst hy;exact h1);have hv:v.cells=#[v]:=by cases v<;>first|rfl|cases h1
 cases hq:P.info? ty with
 | none=>simp[hq]at hi
 | some i=>
  have hs:i.size=1:=by simpa[hq]using hi
  simp only[Nat.add_zero]at this
  simpa[storeVar,sizeOf,typeInfo,hq,hv,hs,World.setCells]using this
theorem outs_store_at {P:Program} {o:Oper} {ρ:Operand→Value} {W:World} {R:Value→World→Prop} (ty:TypeId) (x y:Operand) (ho:o.op=.store ty x y)
 (g k:Nat) (v:Value) (hx:ρ x=.pointer (some ⟨g,k,none⟩)) (hy:ρ y=v) (old:Value) (hc:W.cell? ⟨g,k,none⟩=some old) (hz:W.frozen? ⟨g,k,none⟩=false)
 (hi:(P.info? ty).map (·.size)=some 1) (h1:v.oneCell'=true) (h:R undef (W.setCell ⟨g,k,none⟩ v)):outs P o ρ W R:=by
 unfold outs execOp;simp only[ho,hx,hy,Instr.storeAt,Instr.sureAddr,Sem.run_bind,Sem.run_pure,Result.andThen_ok,run_storeVar_at W g k ty v old hc hz hi h1];exact h
theorem tinfo3:(Tryz.prog.info? 3).map (·.size)=some 1:=by kernel_rfl
theorem tinfo60:(Tryz.prog.info? 40).map (·.size)=some 1:=by kernel_rfl
end
section
variable {w:World} {b:Nat} {K:MacK} {V:MacV}
theorem go2_run {qE q3 qA qR qU qP:Nat} (h:MacB w b K V) {en u:Nat} {a0 a1 a3:Int} {aa pa:Option Addr} {an ac pn pc:Nat} {old:Array Value}
 (hE:w.heap[qE]?=some (.cells #[.int .u8 en] 38 (0,0))) (h3:w.heap[q3]?=some (.cells #[.pointer (some ⟨b,0,none⟩)] 35 (0,0))) (hA:w.heap[qA]?=some (.cells #[.int .u32 a0,.int .u32 a1,.slice aa an ac,.int .u32 a3] 42 (0,0)))
 (hR:w.heap[qR]?=some (.cells old 44 (0,0))) (ho:old.size=11) (hU:w.heap[qU]?=some (.cells #[.int .i64 u] 3 (0,0))) (hP:w.heap[qP]?=some (.cells #[.slice pa pn pc] 32 (0,0)))
 (nE:qE≠qR) (n3:q3≠qR) (nA:qA≠qR) (nU:qU≠qR) (nP:qP≠qR) (nb:b≠qR)
 {ra va:Option Addr} {rn rc vn vc:Nat} (hre:V.replies=.slice ra rn rc) (hve:V.events=.slice va vn vc) (hw1:IntKind.i64.wrap ((pn:Int) - (rn:Int))=(pn:Int) - (rn:Int)) (hl:V.life=1) :
 CallsD Tryz.prog 28 #[.pointer (some ⟨qE,0,none⟩),.pointer (some ⟨q3,0,none⟩),.pointer (some ⟨qA,0,none⟩),.pointer (some ⟨qR,0,none⟩),.pointer (some ⟨qU,0,none⟩),.pointer (some ⟨qP,0,none⟩)] .returning w (fun e u' w'=>u'=.returning∧(fun e w'=>e=.returned (.tuple #[])∧MacB w' b K {V with replies:=.slice none 0 0,events:=.slice none 0 0}∧w'.heap[qR]?=some (.cells #[.int .u8 en,.int .u32 V.pc,.int .u32 0,.int .u8 0,.int .i64 u,.int .i64 ((pn:Int) - (rn:Int)),.slice va vn vc,.int .u32 a0,.int .u32 a1,.slice aa an ac,.int .u32 a3] 44 (0,0))∧Fr w w' (fun k=>k=qR∨k=b) (fun k=>k=qR∨k=b)) e w'):=by
 have hmx:Tryz.prog.follows .mixedOrders=true:=by kernel_rfl
 have hb:=run_b64d;refine callsD_of_wp (R:=(fun e w'=>e=.returned (.tuple #[])∧MacB w' b K {V with replies:=.slice none 0 0,events:=.slice none 0 0}∧w'.heap[qR]?=some (.cells #[.int .u8 en,.int .u32 V.pc,.int .u32 0,.int .u8 0,.int .i64 u,.int .i64 ((pn:Int) - (rn:Int)),.slice va vn vc,.int .u32 a0,.int .u32 a1,.slice aa an ac,.int .u32 a3] 44 (0,0))∧Fr w w' (fun k=>k=qR∨k=b) (fun k=>k=qR∨k=b))) Tryz.func28 rfl ?_;simp only[Tryz.ntmps28,List.size_toArray,List.length_cons,List.length_nil,Nat.reduceAdd,Nat.reduceSub,Array.replicate_succ,Array.replicate_zero,List.push_toArray,List.append_toArray,List.nil_append,List.cons_append];go_wp2_with fail;have hH0:((w.drew.cell? ⟨qE,0,none⟩=some (.int .u8 en)∧w.drew.cell? ⟨q3,0,none⟩=some (.pointer (some ⟨b,0,none⟩)))∧(w.drew.cell? ⟨b,67,none⟩=some (.int .u32 V.pc)∧((w.drew.cell? ⟨qA,0,none⟩=some (.int .u32 a0)∧w.drew.cell? ⟨qA,1,none⟩=some (.int .u32 a1))∧(w.drew.cell? ⟨qA,2,none⟩=some (.slice aa an ac)∧w.drew.cell? ⟨qA,3,none⟩=some (.int .u32 a3))))):=⟨⟨cell_of_row w qE 0 _ _ _ hE,cell_of_row w q3 0 _ _ _ h3⟩,⟨h.cells.c67,⟨⟨(cells62 hA).1,(cells62 hA).2.1⟩,⟨(cells62 hA).2.2.1,(cells62 hA).2.2.2⟩⟩⟩⟩;refine wp_region_held_drew (S:=fun W=>((W.cell? ⟨qE,0,none⟩=some (.int .u8 en)∧W.cell? ⟨q3,0,none⟩=some (.pointer (some ⟨b,0,none⟩)))∧(W.cell? ⟨b,67,none⟩=some (.int .u32 V.pc)∧((W.cell? ⟨qA,0,none⟩=some (.int .u32 a0)∧W.cell? ⟨qA,1,none⟩=some (.int .u32 a1))∧(W.cell? ⟨qA,2,none⟩=some (.slice aa an ac)∧W.cell? ⟨qA,3,none⟩=some (.int .u32 a3)))))) hmx hH0 (fun hHeld=>?_);refine tk 0 hHeld ?_;refine tk 1 hHeld ?_;refine tk 2 hHeld ?_;refine tk 3 hHeld ?_;refine tk 4 hHeld ?_;refine tk 5 hHeld ?_;refine tk 6 hHeld ?_;refine rd 7 ⟨none,.store 44 (.tmp 3) (.tmp 12),_,_,_,none⟩ fun K hK=>?_;rw[if_pos (by rfl)];refine outs_wp (R:=fun v W'=>v=undef∧W'=w.drew.setRow qR #[.int .u8 en,.int .u32 V.pc,.int .u32 0,.int .u8 0,.int .i64 0,.int .i64 0,.slice none 0 0,.int .u32 a0,.int .u32 a1,.slice aa an ac,.int .u32 a3]) (outs_store_row 44 (.tmp 3) (.tmp 12) rfl qR _ rfl rfl 44 _ hR info64 (by rw[ho];rfl) (by simp[Value.oneCell']) ⟨rfl,rfl⟩) ?_;rintro _ _⟨rfl,rfl⟩;obtain⟨W1,hW1⟩:∃W1,W1=w.drew.setRow qR #[.int .u8 en,.int .u32 V.pc,.int .u32 0,.int .u8 0,.int .i64 0,.int .i64 0,.slice none 0 0,.int .u32 a0,.int .u32 a1,.slice aa an ac,.int .u32 a3]:=⟨_,rfl⟩;have hr1:W1.heap[qR]?=some (.cells #[.int .u8 en,.int .u32 V.pc,.int .u32 0,.int .u8 0,.int .i64 0,.int .i64 0,.slice none 0 0,.int .u32 a0,.int .u32 a1,.slice aa an ac,.int .u32 a3] 44 (0,0)):=by rw[hW1];exact setRow_heap _ _ _ _ _ _ hR
 have ho1:∀k,k≠qR→W1.heap[k]?=w.heap[k]?:=fun k hk=>by rw[hW1];exact setRow_other _ _ _ _ hk
 have hf1:Fr w W1 (fun k=>k=qR) (fun k=>k=qR):=by rw[hW1];exact⟨rfl,rfl,rfl,by rw[setRow_size];exact Nat.le_refl _,fun k hk hn=>setRow_other _ _ _ _ hn,fun k hk=>.inl hk⟩
 rw[←hW1];clear hW1;have hE1:=(ho1 _ nE).trans hE;have h31:=(ho1 _ n3).trans h3;have hA1:=(ho1 _ nA).trans hA;have hU1:=(ho1 _ nU).trans hU;have hP1:=(ho1 _ nP).trans hP;have hm1:=h.fr hf1 nb;have hH1:((W1.cell? ⟨qE,0,none⟩=some (.int .u8 en)∧W1.cell? ⟨q3,0,none⟩=some (.pointer (some ⟨b,0,none⟩)))∧(W1.cell? ⟨b,67,none⟩=some (.int .u32 V.pc)∧((W1.cell? ⟨qA,0,none⟩=some (.int .u32 a0)∧W1.cell? ⟨qA,1,none⟩=some (.int .u32 a1))∧(W1.cell? ⟨qA,2,none⟩=some (.slice aa an ac)∧W1.cell? ⟨qA,3,none⟩=some (.int .u32 a3))))):=⟨⟨cell_of_row W1 qE 0 _ _ _ hE1,cell_of_row W1 q3 0 _ _ _ h31⟩,⟨hm1.cells.c67,⟨⟨(cells62 hA1).1,(cells62 hA1).2.1⟩,⟨(cells62 hA1).2.2.1,(cells62 hA1).2.2.2⟩⟩⟩⟩;refine hK.out _ _ hH1 (fun _=>?_);clear hK K
 try simp only[Act.put,aT,aZ,aS]
 refine wpAnyH_done (by kernel_rfl) ?_ _;have HM1:=Lib.hid hm1;have HF1:=Lib.hid hf1;clear hHeld hH0 hH1 hE h3 hA hR hU hP ho ho1 h hE1 hA1 hm1 hf1;have k66:=HM1.out.cells.c66;rw[hl]at k66;go_wp2_with fail;clear k66;obtain⟨X0,hX0⟩:∃X,X=W1.drew:=⟨_,rfl⟩;have hu0:X0.heap[qU]?=some (.cells #[.int .i64 u] 3 (0,0)):=by rw[hX0];exact hU1
 have hp0:X0.heap[qP]?=some (.cells #[.slice pa pn pc] 32 (0,0)):=by rw[hX0];exact hP1
 have h30:X0.heap[q3]?=some (.cells #[.pointer (some ⟨b,0,none⟩)] 35 (0,0)):=by rw[hX0];exact h31
 have hr0:X0.heap[qR]?=some (.cells #[.int .u8 en,.int .u32 V.pc,.int .u32 0,.int .u8 0,.int .i64 0,.int .i64 0,.slice none 0 0,.int .u32 a0,.int .u32 a1,.slice aa an ac,.int .u32 a3] 44 (0,0)):=by rw[hX0];exact hr1
 have hf0:Fr W1 X0 (fun k=>k=qR) (fun k=>k=qR):=by rw[hX0];exact⟨rfl,rfl,rfl,Nat.le_refl _,fun k hk hn=>rfl,fun k hk=>.inl hk⟩
 have hmm0:=HM1.out.fr hf0 nb;have c74:=hmm0.c74;rw[hre]at c74;have c75:=hmm0.c75;rw[hve]at c75;have hS0:((X0.cell? ⟨qU,0,none⟩=some (.int .i64 u)∧X0.cell? ⟨qP,0,none⟩=some (.slice pa pn pc))∧((X0.cell? ⟨b,74,none⟩=some (.slice ra rn rc)∧X0.cell? ⟨b,75,none⟩=some (.slice va vn vc))∧X0.cell? ⟨q3,0,none⟩=some (.pointer (some ⟨b,0,none⟩)))):=⟨⟨cell_of_row X0 qU 0 _ _ _ hu0,cell_of_row X0 qP 0 _ _ _ hp0⟩,⟨⟨c74,c75⟩,cell_of_row X0 q3 0 _ _ _ h30⟩⟩;clear c74 c75;refine wp_region_held_drew (S:=fun W=>((W.cell? ⟨qU,0,none⟩=some (.int .i64 u)∧W.cell? ⟨qP,0,none⟩=some (.slice pa pn pc))∧((W.cell? ⟨b,74,none⟩=some (.slice ra rn rc)∧W.cell? ⟨b,75,none⟩=some (.slice va vn vc))∧W.cell? ⟨q3,0,none⟩=some (.pointer (some ⟨b,0,none⟩))))) hmx (by rw[hX0]at hS0;exact hS0) (fun hHeld=>?_);rw[←hX0];clear hX0 hHeld;refine tk 0 hS0 ?_;refine tk 1 hS0 ?_;refine tk 2 hS0 ?_;refine tk 3 hS0 ?_;refine tk 4 hS0 ?_;refine tk 5 hS0 ?_;refine tk 6 hS0 ?_;refine tk 7 hS0 ?_;refine tk 8 hS0 ?_;refine tk 9 hS0 ?_;refine tk 10 hS0 ?_;refine tk 11 hS0 ?_;refine tk 12 hS0 ?_;refine tk 13 hS0 ?_;refine rd 14 ⟨none,.store 3 (.tmp 33) (.tmp 20),_,_,_,none⟩ fun K hK=>?_;rw[if_pos (by rfl)];have hc:X0.cell? ⟨qR,4,none⟩=_:=cell_of_row X0 qR 4 _ _ _ hr0;have hz:X0.frozen? ⟨qR,4,none⟩=false:=frozen_of_row X0 qR 4 _ _ hr0;refine outs_wp (R:=fun v W'=>v=undef∧W'=X0.setCell ⟨qR,4,none⟩ (.int .i64 u)) (outs_store_at 3 (.tmp 33) (.tmp 20) rfl qR 4 _ rfl rfl _ hc hz tinfo3 rfl ⟨rfl,rfl⟩) ?_;rintro _ _⟨rfl,rfl⟩;obtain⟨X1,hX1⟩:∃X,X=X0.setCell ⟨qR,4,none⟩ (.int .i64 u):=⟨_,rfl⟩;have hr1:X1.heap[qR]?=some (.cells #[.int .u8 en,.int .u32 V.pc,.int .u32 0,.int .u8 0,.int .i64 u,.int .i64 0,.slice none 0 0,.int .u32 a0,.int .u32 a1,.slice aa an ac,.int .u32 a3] 44 (0,0)):=by rw[hX1];exact heap_setCell_same X0 qR 4 _ _ _ hr0
 have hf1:Fr X0 X1 (fun k=>k=qR) (fun k=>k=qR):=by rw[hX1];exact Fr.setCell (F:=fun k=>k=qR) _ (a:=⟨qR,4,none⟩) rfl _
 rw[←hX1];clear hX1 hc hz;have hu1:=hf1.row hu0 nU;have hp1:=hf1.row hp0 nP;have h31:=hf1.row h30 n3;have hmm1:=hmm0.fr hf1 nb;have c74:=hmm1.c74;rw[hre]at c74;have c75:=hmm1.c75;rw[hve]at c75;have hS1:((X1.cell? ⟨qU,0,none⟩=some (.int .i64 u)∧X1.cell? ⟨qP,0,none⟩=some (.slice pa pn pc))∧((X1.cell? ⟨b,74,none⟩=some (.slice ra rn rc)∧X1.cell? ⟨b,75,none⟩=some (.slice va vn vc))∧X1.cell? ⟨q3,0,none⟩=some (.pointer (some ⟨b,0,none⟩)))):=⟨⟨cell_of_row X1 qU 0 _ _ _ hu1,cell_of_row X1 qP 0 _ _ _ hp1⟩,⟨⟨c74,c75⟩,cell_of_row X1 q3 0 _ _ _ h31⟩⟩;clear c74 c75;refine hK.out _ _ hS1 (fun _=>?_);clear hK K
 try simp only[Act.put,aT,aZ,aS]
 refine tk 15 hS1 ?_;refine rd 16 ⟨none,.store 3 (.tmp 34) (.tmp 28),_,_,_,none⟩ fun K hK=>?_;rw[if_pos (by rfl)];have hc:X1.cell? ⟨qR,5,none⟩=_:=cell_of_row X1 qR 5 _ _ _ hr1;have hz:X1.frozen? ⟨qR,5,none⟩=false:=frozen_of_row X1 qR 5 _ _ hr1;refine outs_wp (R:=fun v W'=>v=undef∧W'=X1.setCell ⟨qR,5,none⟩ (.int .i64 ((pn:Int) - (rn:Int)))) (outs_store_at 3 (.tmp 34) (.tmp 28) rfl qR 5 _ rfl rfl _ hc hz tinfo3 rfl ⟨rfl,rfl⟩) ?_;rintro _ _⟨rfl,rfl⟩;obtain⟨X2,hX2⟩:∃X,X=X1.setCell ⟨qR,5,none⟩ (.int .i64 ((pn:Int) - (rn:Int))):=⟨_,rfl⟩;have hr2:X2.heap[qR]?=some (.cells #[.int .u8 en,.int .u32 V.pc,.int .u32 0,.int .u8 0,.int .i64 u,.int .i64 ((pn:Int) - (rn:Int)),.slice none 0 0,.int .u32 a0,.int .u32 a1,.slice aa an ac,.int .u32 a3] 44 (0,0)):=by rw[hX2];exact heap_setCell_same X1 qR 5 _ _ _ hr1
 have hf2:Fr X1 X2 (fun k=>k=qR) (fun k=>k=qR):=by rw[hX2];exact Fr.setCell (F:=fun k=>k=qR) _ (a:=⟨qR,5,none⟩) rfl _
 rw[←hX2];clear hX2 hc hz;have hu2:=hf2.row hu1 nU;have hp2:=hf2.row hp1 nP;have h32:=hf2.row h31 n3;have hmm2:=hmm1.fr hf2 nb;have c74:=hmm2.c74;rw[hre]at c74;have c75:=hmm2.c75;rw[hve]at c75;have hS2:((X2.cell? ⟨qU,0,none⟩=some (.int .i64 u)∧X2.cell? ⟨qP,0,none⟩=some (.slice pa pn pc))∧((X2.cell? ⟨b,74,none⟩=some (.slice ra rn rc)∧X2.cell? ⟨b,75,none⟩=some (.slice va vn vc))∧X2.cell? ⟨q3,0,none⟩=some (.pointer (some ⟨b,0,none⟩)))):=⟨⟨cell_of_row X2 qU 0 _ _ _ hu2,cell_of_row X2 qP 0 _ _ _ hp2⟩,⟨⟨c74,c75⟩,cell_of_row X2 q3 0 _ _ _ h32⟩⟩;clear c74 c75;refine hK.out _ _ hS2 (fun _=>?_);clear hK K
 try simp only[Act.put,aT,aZ,aS]
 refine tk 17 hS2 ?_;refine rd 18 ⟨none,.store 40 (.tmp 35) (.tmp 32),_,_,_,none⟩ fun K hK=>?_;rw[if_pos (by rfl)];have hc:X2.cell? ⟨qR,6,none⟩=_:=cell_of_row X2 qR 6 _ _ _ hr2;have hz:X2.frozen? ⟨qR,6,none⟩=false:=frozen_of_row X2 qR 6 _ _ hr2;refine outs_wp (R:=fun v W'=>v=undef∧W'=X2.setCell ⟨qR,6,none⟩ (.slice va vn vc)) (outs_store_at 40 (.tmp 35) (.tmp 32) rfl qR 6 _ rfl rfl _ hc hz tinfo60 rfl ⟨rfl,rfl⟩) ?_;rintro _ _⟨rfl,rfl⟩;obtain⟨X3,hX3⟩:∃X,X=X2.setCell ⟨qR,6,none⟩ (.slice va vn vc):=⟨_,rfl⟩;have hr3:X3.heap[qR]?=some (.cells #[.int .u8 en,.int .u32 V.pc,.int .u32 0,.int .u8 0,.int .i64 u,.int .i64 ((pn:Int) - (rn:Int)),.slice va vn vc,.int .u32 a0,.int .u32 a1,.slice aa an ac,.int .u32 a3] 44 (0,0)):=by rw[hX3];exact heap_setCell_same X2 qR 6 _ _ _ hr2
 have hf3:Fr X2 X3 (fun k=>k=qR) (fun k=>k=qR):=by rw[hX3];exact Fr.setCell (F:=fun k=>k=qR) _ (a:=⟨qR,6,none⟩) rfl _
 rw[←hX3];clear hX3 hc hz;have hu3:=hf3.row hu2 nU;have hp3:=hf3.row hp2 nP;have h33:=hf3.row h32 n3;have hmm3:=hmm2.fr hf3 nb;have c74:=hmm3.c74;rw[hre]at c74;have c75:=hmm3.c75;rw[hve]at c75;have hS3:((X3.cell? ⟨qU,0,none⟩=some (.int .i64 u)∧X3.cell? ⟨qP,0,none⟩=some (.slice pa pn pc))∧((X3.cell? ⟨b,74,none⟩=some (.slice ra rn rc)∧X3.cell? ⟨b,75,none⟩=some (.slice va vn vc))∧X3.cell? ⟨q3,0,none⟩=some (.pointer (some ⟨b,0,none⟩)))):=⟨⟨cell_of_row X3 qU 0 _ _ _ hu3,cell_of_row X3 qP 0 _ _ _ hp3⟩,⟨⟨c74,c75⟩,cell_of_row X3 q3 0 _ _ _ h33⟩⟩;clear c74 c75;refine hK.out _ _ hS3 (fun _=>?_);clear hK K
 try simp only[Act.put,aT,aZ,aS]
 refine wpAnyH_done (by kernel_rfl) ?_ _;have z74:=hmm3.cells.fz 74;have z75:=hmm3.cells.fz 75;have c74:=hmm3.c74;have c75:=hmm3.c75;have c3:=cell_of_row X3 q3 0 _ _ _ h33;have HMM:=Lib.hid hmm3;have HRR:=Lib.hid hr3;have HFF:=Lib.hid ((((HF1.out.trans hf0).trans hf1).trans hf2).trans hf3);clear hmm0 hmm1 hmm2 hmm3 hr0 hr1 hr2 hr3 hu0 hu1 hu2 hu3 hp0 hp1 hp2 hp3 h30 h31 h32 h33 hf0 hf1 hf2 hf3 hS0 hS1 hS2 hS3 HM1 HF1;go_wp2_with fail
 go_end0
 refine⟨rfl,(HMM.out.setReplies _).setEvents _,?_,?_⟩
 ·rw[Below.heap_setCell _ _ _ _ (fun e=>nb (by rw[e])),Below.heap_setCell _ _ _ _ (fun e=>nb (by rw[e]))]
  exact HRR.out
 ·exact(HFF.out.mono (fun i e=>.inl e) (fun i e=>.inl e)).trans ((Fr.setCell (F:=fun k=>k=qR∨k=b) _ (a:=⟨b,74,none⟩) (.inr rfl) _).trans (Fr.setCell (F:=fun k=>k=qR∨k=b) _ (a:=⟨b,75,none⟩) (.inr rfl) _))
theorem go2_rest {qE q3 qA qR qU qP:Nat} (h:MacB w b K V) {en u:Nat} {a0 a1 a3:Int} {aa pa:Option Addr} {an ac pn pc:Nat} {old:Array Value}
 (hE:w.heap[qE]?=some (.cells #[.int .u8 en] 38 (0,0))) (h3:w.heap[q3]?=some (.cells #[.pointer (some ⟨b,0,none⟩)] 35 (0,0))) (hA:w.heap[qA]?=some (.cells #[.int .u32 a0,.int .u32 a1,.slice aa an ac,.int .u32 a3] 42 (0,0)))
 (hR:w.heap[qR]?=some (.cells old 44 (0,0))) (ho:old.size=11) (hU:w.heap[qU]?=some (.cells #[.int .i64 u] 3 (0,0))) (hP:w.heap[qP]?=some (.cells #[.slice pa pn pc] 32 (0,0)))
 (nE:qE≠qR) (n3:q3≠qR) (nA:qA≠qR) (nU:qU≠qR) (nP:qP≠qR) (nb:b≠qR)
 {ra va:Option Addr} {rn rc vn vc:Nat} (hre:V.replies=.slice ra rn rc) (hve:V.events=.slice va vn vc) (hw1:IntKind.i64.wrap ((pn:Int) - (rn:Int))=(pn:Int) - (rn:Int)) (hl:V.life≠1) {re rp rs rf:Nat} (HRest':∀W,MacB W b K V→Calls Tryz.prog 27 #[.pointer (some ⟨b,0,none⟩)] W fun e w'=>e=.returned (.agg #[.int .u8 re,.int .u32 rp,.int .u32 rs,.int .u8 rf,.int .i64 0,.int .i64 0,.slice none 0 0,.int .u32 0,.int .u32 0,.slice none 0 0,.int .u32 0])∧Below W.heap.size W w') :
 CallsD Tryz.prog 28 #[.pointer (some ⟨qE,0,none⟩),.pointer (some ⟨q3,0,none⟩),.pointer (some ⟨qA,0,none⟩),.pointer (some ⟨qR,0,none⟩),.pointer (some ⟨qU,0,none⟩),.pointer (some ⟨qP,0,none⟩)] .returning w (fun e u' w'=>u'=.returning∧(fun e w'=>e=.returned (.tuple #[])∧MacB w' b K {V with replies:=.slice none 0 0,events:=.slice none 0 0}∧w'.heap[qR]?=some (.cells #[.int .u8 re,.int .u32 rp,.int .u32 rs,.int .u8 rf,.int .i64 u,.int .i64 ((pn:Int) - (rn:Int)),.slice va vn vc,.int .u32 0,.int .u32 0,.slice none 0 0,.int .u32 0] 44 (0,0))∧Fr w w' (fun k=>k=qR∨k=b) (fun k=>k=qR∨k=b)) e w'):=by
 have hmx:Tryz.prog.follows .mixedOrders=true:=by kernel_rfl
 have hb:=run_b64d;refine callsD_of_wp (R:=(fun e w'=>e=.returned (.tuple #[])∧MacB w' b K {V with replies:=.slice none 0 0,events:=.slice none 0 0}∧w'.heap[qR]?=some (.cells #[.int .u8 re,.int .u32 rp,.int .u32 rs,.int .u8 rf,.int .i64 u,.int .i64 ((pn:Int) - (rn:Int)),.slice va vn vc,.int .u32 0,.int .u32 0,.slice none 0 0,.int .u32 0] 44 (0,0))∧Fr w w' (fun k=>k=qR∨k=b) (fun k=>k=qR∨k=b))) Tryz.func28 rfl ?_;simp only[Tryz.ntmps28,List.size_toArray,List.length_cons,List.length_nil,Nat.reduceAdd,Nat.reduceSub,Array.replicate_succ,Array.replicate_zero,List.push_toArray,List.append_toArray,List.nil_append,List.cons_append];go_wp2_with fail;have HRest:=Lib.hid HRest';clear HRest';have hH0:((w.drew.cell? ⟨qE,0,none⟩=some (.int .u8 en)∧w.drew.cell? ⟨q3,0,none⟩=some (.pointer (some ⟨b,0,none⟩)))∧(w.drew.cell? ⟨b,67,none⟩=some (.int .u32 V.pc)∧((w.drew.cell? ⟨qA,0,none⟩=some (.int .u32 a0)∧w.drew.cell? ⟨qA,1,none⟩=some (.int .u32 a1))∧(w.drew.cell? ⟨qA,2,none⟩=some (.slice aa an ac)∧w.drew.cell? ⟨qA,3,none⟩=some (.int .u32 a3))))):=⟨⟨cell_of_row w qE 0 _ _ _ hE,cell_of_row w q3 0 _ _ _ h3⟩,⟨h.cells.c67,⟨⟨(cells62 hA).1,(cells62 hA).2.1⟩,⟨(cells62 hA).2.2.1,(cells62 hA).2.2.2⟩⟩⟩⟩;refine wp_region_held_drew (S:=fun W=>((W.cell? ⟨qE,0,none⟩=some (.int .u8 en)∧W.cell? ⟨q3,0,none⟩=some (.pointer (some ⟨b,0,none⟩)))∧(W.cell? ⟨b,67,none⟩=some (.int .u32 V.pc)∧((W.cell? ⟨qA,0,none⟩=some (.int .u32 a0)∧W.cell? ⟨qA,1,none⟩=some (.int .u32 a1))∧(W.cell? ⟨qA,2,none⟩=some (.slice aa an ac)∧W.cell? ⟨qA,3,none⟩=some (.int .u32 a3)))))) hmx hH0 (fun hHeld=>?_);refine tk 0 hHeld ?_;refine tk 1 hHeld ?_;refine tk 2 hHeld ?_;refine tk 3 hHeld ?_;refine tk 4 hHeld ?_;refine tk 5 hHeld ?_;refine tk 6 hHeld ?_;refine rd 7 ⟨none,.store 44 (.tmp 3) (.tmp 12),_,_,_,none⟩ fun K hK=>?_;rw[if_pos (by rfl)];refine outs_wp (R:=fun v W'=>v=undef∧W'=w.drew.setRow qR #[.int .u8 en,.int .u32 V.pc,.int .u32 0,.int .u8 0,.int .i64 0,.int .i64 0,.slice none 0 0,.int .u32 a0,.int .u32 a1,.slice aa an ac,.int .u32 a3]) (outs_store_row 44 (.tmp 3) (.tmp 12) rfl qR _ rfl rfl 44 _ hR info64 (by rw[ho];rfl) (by simp[Value.oneCell']) ⟨rfl,rfl⟩) ?_;rintro _ _⟨rfl,rfl⟩;obtain⟨W1,hW1⟩:∃W1,W1=w.drew.setRow qR #[.int .u8 en,.int .u32 V.pc,.int .u32 0,.int .u8 0,.int .i64 0,.int .i64 0,.slice none 0 0,.int .u32 a0,.int .u32 a1,.slice aa an ac,.int .u32 a3]:=⟨_,rfl⟩;have hr1:W1.heap[qR]?=some (.cells #[.int .u8 en,.int .u32 V.pc,.int .u32 0,.int .u8 0,.int .i64 0,.int .i64 0,.slice none 0 0,.int .u32 a0,.int .u32 a1,.slice aa an ac,.int .u32 a3] 44 (0,0)):=by rw[hW1];exact setRow_heap _ _ _ _ _ _ hR
 have ho1:∀k,k≠qR→W1.heap[k]?=w.heap[k]?:=fun k hk=>by rw[hW1];exact setRow_other _ _ _ _ hk
 have hf1:Fr w W1 (fun k=>k=qR) (fun k=>k=qR):=by rw[hW1];exact⟨rfl,rfl,rfl,by rw[setRow_size];exact Nat.le_refl _,fun k hk hn=>setRow_other _ _ _ _ hn,fun k hk=>.inl hk⟩
 rw[←hW1];clear hW1;have hE1:=(ho1 _ nE).trans hE;have h31:=(ho1 _ n3).trans h3;have hA1:=(ho1 _ nA).trans hA;have hU1:=(ho1 _ nU).trans hU;have hP1:=(ho1 _ nP).trans hP;have hm1:=h.fr hf1 nb;have hH1:((W1.cell? ⟨qE,0,none⟩=some (.int .u8 en)∧W1.cell? ⟨q3,0,none⟩=some (.pointer (some ⟨b,0,none⟩)))∧(W1.cell? ⟨b,67,none⟩=some (.int .u32 V.pc)∧((W1.cell? ⟨qA,0,none⟩=some (.int .u32 a0)∧W1.cell? ⟨qA,1,none⟩=some (.int .u32 a1))∧(W1.cell? ⟨qA,2,none⟩=some (.slice aa an ac)∧W1.cell? ⟨qA,3,none⟩=some (.int .u32 a3))))):=⟨⟨cell_of_row W1 qE 0 _ _ _ hE1,cell_of_row W1 q3 0 _ _ _ h31⟩,⟨hm1.cells.c67,⟨⟨(cells62 hA1).1,(cells62 hA1).2.1⟩,⟨(cells62 hA1).2.2.1,(cells62 hA1).2.2.2⟩⟩⟩⟩;refine hK.out _ _ hH1 (fun _=>?_);clear hK K
 try simp only[Act.put,aT,aZ,aS]
 refine wpAnyH_done (by kernel_rfl) ?_ _;have HM1:=Lib.hid hm1;have HF1:=Lib.hid hf1;clear hHeld hH0 hH1 hE h3 hA hR hU hP ho ho1 h hE1 hA1 hm1 hf1;have e1:¬((V.life:Nat):Int)=1:=by omega
 have k66:=HM1.out.cells.c66;have k3:=cell_of_row W1 q3 0 _ _ _ h31;go_wp2_with fail;clear k66 k3;refine(HRest.out W1 HM1.out).mono ?_;rintro e W2⟨rfl,hbe⟩;have lt:∀{k:Nat} {o:Obj},W1.heap[k]?=some o→k<W1.heap.size:=fun h=>(Array.getElem?_eq_some_iff.1 h).1;have hr2:=(hbe.block _ (lt hr1)).trans hr1;have hU2:=(hbe.block _ (lt hU1)).trans hU1;have hP2:=(hbe.block _ (lt hP1)).trans hP1;have h32x:=(hbe.block _ (lt h31)).trans h31;have hfb:=Fr.of hbe (fun k=>k=qR);have hm2:=HM1.out.fr hfb nb;obtain⟨W3,hW3⟩:∃W3,W3=W2.setRow qR #[.int .u8 re,.int .u32 rp,.int .u32 rs,.int .u8 rf,.int .i64 0,.int .i64 0,.slice none 0 0,.int .u32 0,.int .u32 0,.slice none 0 0,.int .u32 0]:=⟨_,rfl⟩;have hr3:W3.heap[qR]?=some (.cells #[.int .u8 re,.int .u32 rp,.int .u32 rs,.int .u8 rf,.int .i64 0,.int .i64 0,.slice none 0 0,.int .u32 0,.int .u32 0,.slice none 0 0,.int .u32 0] 44 (0,0)):=by rw[hW3];exact setRow_heap _ _ _ _ _ _ hr2
 have ho3:∀k,k≠qR→W3.heap[k]?=W2.heap[k]?:=fun k hk=>by rw[hW3];exact setRow_other _ _ _ _ hk
 have hf3:Fr W2 W3 (fun k=>k=qR) (fun k=>k=qR):=by rw[hW3];exact⟨rfl,rfl,rfl,by rw[setRow_size];exact Nat.le_refl _,fun k hk hn=>setRow_other _ _ _ _ hn,fun k hk=>.inl hk⟩
 have hU3:=(ho3 _ nU).trans hU2;have hP3:=(ho3 _ nP).trans hP2;have h33x:=(ho3 _ n3).trans h32x;have hm3:=hm2.fr hf3 nb;have HM3:=Lib.hid hm3;have HF3:=Lib.hid ((HF1.out.trans hfb).trans hf3);have HR2:=Lib.hid hr2;clear hr2 hU2 hP2 h32x hm2 hm3 ho3 hf3 hfb hr1 hU1 hP1 h31 lt HM1 HF1
 go_wp2_with((with_reducible refine wpList_store_row (o:=⟨none,.store 44 (.tmp 3) (.tmp 19),_,_,_,none⟩) rfl 44 _ _ rfl qR #[.int .u8 re,.int .u32 rp,.int .u32 rs,.int .u8 rf,.int .i64 0,.int .i64 0,.slice none 0 0,.int .u32 0,.int .u32 0,.slice none 0 0,.int .u32 0] ?_ ?_ 44 _ HR2.out ?_ ?_ ?_ ?_);rfl;rfl;exact size64 _ _ _ _ _ _ _ _ _ _ _;rfl;(simp[Value.oneCell']))
 rw[←hW3];clear hW3 HR2;obtain⟨X0,hX0⟩:∃X,X=W3.drew:=⟨_,rfl⟩;have hu0:X0.heap[qU]?=some (.cells #[.int .i64 u] 3 (0,0)):=by rw[hX0];exact hU3
 have hp0:X0.heap[qP]?=some (.cells #[.slice pa pn pc] 32 (0,0)):=by rw[hX0];exact hP3
 have h30:X0.heap[q3]?=some (.cells #[.pointer (some ⟨b,0,none⟩)] 35 (0,0)):=by rw[hX0];exact h33x
 have hr0:X0.heap[qR]?=some (.cells #[.int .u8 re,.int .u32 rp,.int .u32 rs,.int .u8 rf,.int .i64 0,.int .i64 0,.slice none 0 0,.int .u32 0,.int .u32 0,.slice none 0 0,.int .u32 0] 44 (0,0)):=by rw[hX0];exact hr3
 have hf0:Fr W3 X0 (fun k=>k=qR) (fun k=>k=qR):=by rw[hX0];exact⟨rfl,rfl,rfl,Nat.le_refl _,fun k hk hn=>rfl,fun k hk=>.inl hk⟩
 have hmm0:=HM3.out.fr hf0 nb;have c74:=hmm0.c74;rw[hre]at c74;have c75:=hmm0.c75;rw[hve]at c75;have hS0:((X0.cell? ⟨qU,0,none⟩=some (.int .i64 u)∧X0.cell? ⟨qP,0,none⟩=some (.slice pa pn pc))∧((X0.cell? ⟨b,74,none⟩=some (.slice ra rn rc)∧X0.cell? ⟨b,75,none⟩=some (.slice va vn vc))∧X0.cell? ⟨q3,0,none⟩=some (.pointer (some ⟨b,0,none⟩)))):=⟨⟨cell_of_row X0 qU 0 _ _ _ hu0,cell_of_row X0 qP 0 _ _ _ hp0⟩,⟨⟨c74,c75⟩,cell_of_row X0 q3 0 _ _ _ h30⟩⟩;clear c74 c75;refine wp_region_held_drew (S:=fun W=>((W.cell? ⟨qU,0,none⟩=some (.int .i64 u)∧W.cell? ⟨qP,0,none⟩=some (.slice pa pn pc))∧((W.cell? ⟨b,74,none⟩=some (.slice ra rn rc)∧W.cell? ⟨b,75,none⟩=some (.slice va vn vc))∧W.cell? ⟨q3,0,none⟩=some (.pointer (some ⟨b,0,none⟩))))) hmx (by rw[hX0]at hS0;exact hS0) (fun hHeld=>?_);rw[←hX0];clear hX0 hHeld;refine tk 0 hS0 ?_;refine tk 1 hS0 ?_;refine tk 2 hS0 ?_;refine tk 3 hS0 ?_;refine tk 4 hS0 ?_;refine tk 5 hS0 ?_;refine tk 6 hS0 ?_;refine tk 7 hS0 ?_;refine tk 8 hS0 ?_;refine tk 9 hS0 ?_;refine tk 10 hS0 ?_;refine tk 11 hS0 ?_;refine tk 12 hS0 ?_;refine tk 13 hS0 ?_;refine rd 14 ⟨none,.store 3 (.tmp 33) (.tmp 20),_,_,_,none⟩ fun K hK=>?_;rw[if_pos (by rfl)];have hc:X0.cell? ⟨qR,4,none⟩=_:=cell_of_row X0 qR 4 _ _ _ hr0;have hz:X0.frozen? ⟨qR,4,none⟩=false:=frozen_of_row X0 qR 4 _ _ hr0;refine outs_wp (R:=fun v W'=>v=undef∧W'=X0.setCell ⟨qR,4,none⟩ (.int .i64 u)) (outs_store_at 3 (.tmp 33) (.tmp 20) rfl qR 4 _ rfl rfl _ hc hz tinfo3 rfl ⟨rfl,rfl⟩) ?_;rintro _ _⟨rfl,rfl⟩;obtain⟨X1,hX1⟩:∃X,X=X0.setCell ⟨qR,4,none⟩ (.int .i64 u):=⟨_,rfl⟩;have hr1:X1.heap[qR]?=some (.cells #[.int .u8 re,.int .u32 rp,.int .u32 rs,.int .u8 rf,.int .i64 u,.int .i64 0,.slice none 0 0,.int .u32 0,.int .u32 0,.slice none 0 0,.int .u32 0] 44 (0,0)):=by rw[hX1];exact heap_setCell_same X0 qR 4 _ _ _ hr0
 have hf1:Fr X0 X1 (fun k=>k=qR) (fun k=>k=qR):=by rw[hX1];exact Fr.setCell (F:=fun k=>k=qR) _ (a:=⟨qR,4,none⟩) rfl _
 rw[←hX1];clear hX1 hc hz;have hu1:=hf1.row hu0 nU;have hp1:=hf1.row hp0 nP;have h31:=hf1.row h30 n3;have hmm1:=hmm0.fr hf1 nb;have c74:=hmm1.c74;rw[hre]at c74;have c75:=hmm1.c75;rw[hve]at c75;have hS1:((X1.cell? ⟨qU,0,none⟩=some (.int .i64 u)∧X1.cell? ⟨qP,0,none⟩=some (.slice pa pn pc))∧((X1.cell? ⟨b,74,none⟩=some (.slice ra rn rc)∧X1.cell? ⟨b,75,none⟩=some (.slice va vn vc))∧X1.cell? ⟨q3,0,none⟩=some (.pointer (some ⟨b,0,none⟩)))):=⟨⟨cell_of_row X1 qU 0 _ _ _ hu1,cell_of_row X1 qP 0 _ _ _ hp1⟩,⟨⟨c74,c75⟩,cell_of_row X1 q3 0 _ _ _ h31⟩⟩;clear c74 c75;refine hK.out _ _ hS1 (fun _=>?_);clear hK K
 try simp only[Act.put,aT,aZ,aS]
 refine tk 15 hS1 ?_;refine rd 16 ⟨none,.store 3 (.tmp 34) (.tmp 28),_,_,_,none⟩ fun K hK=>?_;rw[if_pos (by rfl)];have hc:X1.cell? ⟨qR,5,none⟩=_:=cell_of_row X1 qR 5 _ _ _ hr1;have hz:X1.frozen? ⟨qR,5,none⟩=false:=frozen_of_row X1 qR 5 _ _ hr1;refine outs_wp (R:=fun v W'=>v=undef∧W'=X1.setCell ⟨qR,5,none⟩ (.int .i64 ((pn:Int) - (rn:Int)))) (outs_store_at 3 (.tmp 34) (.tmp 28) rfl qR 5 _ rfl rfl _ hc hz tinfo3 rfl ⟨rfl,rfl⟩) ?_;rintro _ _⟨rfl,rfl⟩;obtain⟨X2,hX2⟩:∃X,X=X1.setCell ⟨qR,5,none⟩ (.int .i64 ((pn:Int) - (rn:Int))):=⟨_,rfl⟩;have hr2:X2.heap[qR]?=some (.cells #[.int .u8 re,.int .u32 rp,.int .u32 rs,.int .u8 rf,.int .i64 u,.int .i64 ((pn:Int) - (rn:Int)),.slice none 0 0,.int .u32 0,.int .u32 0,.slice none 0 0,.int .u32 0] 44 (0,0)):=by rw[hX2];exact heap_setCell_same X1 qR 5 _ _ _ hr1
 have hf2:Fr X1 X2 (fun k=>k=qR) (fun k=>k=qR):=by rw[hX2];exact Fr.setCell (F:=fun k=>k=qR) _ (a:=⟨qR,5,none⟩) rfl _
 rw[←hX2];clear hX2 hc hz;have hu2:=hf2.row hu1 nU;have hp2:=hf2.row hp1 nP;have h32:=hf2.row h31 n3;have hmm2:=hmm1.fr hf2 nb;have c74:=hmm2.c74;rw[hre]at c74;have c75:=hmm2.c75;rw[hve]at c75;have hS2:((X2.cell? ⟨qU,0,none⟩=some (.int .i64 u)∧X2.cell? ⟨qP,0,none⟩=some (.slice pa pn pc))∧((X2.cell? ⟨b,74,none⟩=some (.slice ra rn rc)∧X2.cell? ⟨b,75,none⟩=some (.slice va vn vc))∧X2.cell? ⟨q3,0,none⟩=some (.pointer (some ⟨b,0,none⟩)))):=⟨⟨cell_of_row X2 qU 0 _ _ _ hu2,cell_of_row X2 qP 0 _ _ _ hp2⟩,⟨⟨c74,c75⟩,cell_of_row X2 q3 0 _ _ _ h32⟩⟩;clear c74 c75;refine hK.out _ _ hS2 (fun _=>?_);clear hK K
 try simp only[Act.put,aT,aZ,aS]
 refine tk 17 hS2 ?_;refine rd 18 ⟨none,.store 40 (.tmp 35) (.tmp 32),_,_,_,none⟩ fun K hK=>?_;rw[if_pos (by rfl)];have hc:X2.cell? ⟨qR,6,none⟩=_:=cell_of_row X2 qR 6 _ _ _ hr2;have hz:X2.frozen? ⟨qR,6,none⟩=false:=frozen_of_row X2 qR 6 _ _ hr2;refine outs_wp (R:=fun v W'=>v=undef∧W'=X2.setCell ⟨qR,6,none⟩ (.slice va vn vc)) (outs_store_at 40 (.tmp 35) (.tmp 32) rfl qR 6 _ rfl rfl _ hc hz tinfo60 rfl ⟨rfl,rfl⟩) ?_;rintro _ _⟨rfl,rfl⟩;obtain⟨X3,hX3⟩:∃X,X=X2.setCell ⟨qR,6,none⟩ (.slice va vn vc):=⟨_,rfl⟩;have hr3:X3.heap[qR]?=some (.cells #[.int .u8 re,.int .u32 rp,.int .u32 rs,.int .u8 rf,.int .i64 u,.int .i64 ((pn:Int) - (rn:Int)),.slice va vn vc,.int .u32 0,.int .u32 0,.slice none 0 0,.int .u32 0] 44 (0,0)):=by rw[hX3];exact heap_setCell_same X2 qR 6 _ _ _ hr2
 have hf3:Fr X2 X3 (fun k=>k=qR) (fun k=>k=qR):=by rw[hX3];exact Fr.setCell (F:=fun k=>k=qR) _ (a:=⟨qR,6,none⟩) rfl _
 rw[←hX3];clear hX3 hc hz;have hu3:=hf3.row hu2 nU;have hp3:=hf3.row hp2 nP;have h33:=hf3.row h32 n3;have hmm3:=hmm2.fr hf3 nb;have c74:=hmm3.c74;rw[hre]at c74;have c75:=hmm3.c75;rw[hve]at c75;have hS3:((X3.cell? ⟨qU,0,none⟩=some (.int .i64 u)∧X3.cell? ⟨qP,0,none⟩=some (.slice pa pn pc))∧((X3.cell? ⟨b,74,none⟩=some (.slice ra rn rc)∧X3.cell? ⟨b,75,none⟩=some (.slice va vn vc))∧X3.cell? ⟨q3,0,none⟩=some (.pointer (some ⟨b,0,none⟩)))):=⟨⟨cell_of_row X3 qU 0 _ _ _ hu3,cell_of_row X3 qP 0 _ _ _ hp3⟩,⟨⟨c74,c75⟩,cell_of_row X3 q3 0 _ _ _ h33⟩⟩;clear c74 c75;refine hK.out _ _ hS3 (fun _=>?_);clear hK K
 try simp only[Act.put,aT,aZ,aS]
 refine wpAnyH_done (by kernel_rfl) ?_ _;have z74:=hmm3.cells.fz 74;have z75:=hmm3.cells.fz 75;have c74:=hmm3.c74;have c75:=hmm3.c75;have c3:=cell_of_row X3 q3 0 _ _ _ h33;have HMM:=Lib.hid hmm3;have HRR:=Lib.hid hr3;have HFF:=Lib.hid ((((HF3.out.trans hf0).trans hf1).trans hf2).trans hf3);clear hmm0 hmm1 hmm2 hmm3 hr0 hr1 hr2 hr3 hu0 hu1 hu2 hu3 hp0 hp1 hp2 hp3 h30 h31 h32 h33 hf0 hf1 hf2 hf3 hS0 hS1 hS2 hS3 HM3 HF3;go_wp2_with fail
 go_end0
 refine⟨rfl,(HMM.out.setReplies _).setEvents _,?_,?_⟩
 ·rw[Below.heap_setCell _ _ _ _ (fun e=>nb (by rw[e])),Below.heap_setCell _ _ _ _ (fun e=>nb (by rw[e]))]
  exact HRR.out
 ·exact(HFF.out.mono (fun i e=>.inl e) (fun i e=>.inl e)).trans ((Fr.setCell (F:=fun k=>k=qR∨k=b) _ (a:=⟨b,74,none⟩) (.inr rfl) _).trans (Fr.setCell (F:=fun k=>k=qR∨k=b) _ (a:=⟨b,75,none⟩) (.inr rfl) _))
end
section
variable {w:World} {b:Nat} {K:MacK} {V:MacV}
theorem mmade_any (h:MacB w b K V) {mb:Nat} (hmd:K.md=.pointer (some ⟨mb,0,none⟩)) :
 Calls Tryz.prog 23 #[.pointer (some ⟨b,0,none⟩)] w fun e w'=>e=.returned (.bool true)∧w'=w:=by
 have c0:=h.c0;rw[hmd]at c0;clear h hmd;go_enter Tryz.func23,Tryz.ntmps23;go_wp2_with fail;go_ret;exact⟨rfl,rfl⟩
theorem mtouched_any (h:MacB w b K V) {mb:Nat} (hmd:K.md=.pointer (some ⟨mb,0,none⟩)) {la:Option Addr} {ln lc:Nat} (hl:V.log=.slice la ln lc) :
 Calls Tryz.prog 19 #[.pointer (some ⟨b,0,none⟩)] w fun e w'=>e=.returned (.slice la ln lc)∧w'=w.setCell ⟨b,73,none⟩ (.slice none 0 0):=by
 have HM:=Lib.hid (mmade_any h hmd);have c73:=h.c73;rw[hl]at c73;have z73:=h.cells.fz 73;clear h hmd hl;go_enter Tryz.func19,Tryz.ntmps19;go_wp2_with fail;refine HM.out.mono ?_;rintro e w1⟨rfl,rfl⟩;go_wp2_with fail;go_ret;exact⟨rfl,rfl⟩
end
theorem MacRow.setOn {cs:Array Value} {K:MacK} {V:MacV} (h:MacRow cs K V) (v:Bool):MacRow (cs.setIfInBounds 72 (.bool v)) K {V with on:=v}:=h.set 72 _ _ (by omega) (by omega) rfl rfl rfl rfl rfl rfl rfl rfl rfl rfl
section
variable {w:World} {b:Nat} {K:MacK} {V:MacV} {s:St} {vo:Value} {R:MacR} {M:MemK} {vt:Value} {logs:Bool} {tou:List (Nat×Bool)} {evs:List (Ev×Value)} {lg:List (Nat×Bool)}
theorem MacB.setOn (h:MacB w b K V) (v:Bool):MacB (w.setCell ⟨b,72,none⟩ (.bool v)) b K {V with on:=v}:=by
 obtain⟨cs,h,r⟩:=h;exact⟨_,heap_setCell_same w b 72 _ _ _ h,r.setOn v⟩
theorem MachX.setOn (h:MachX w b K s vo R M vt logs tou evs lg) (v:Bool):MachX (w.setCell ⟨b,72,none⟩ (.bool v)) b K s vo {R with on:=v} M vt logs tou evs lg:=
 h.put (h.m.put (R':={R with on:=v}) rfl (h.m.o.m.setOn v) rfl rfl) rfl rfl
theorem MachX.clearLog (h:MachX w b K s vo R M vt logs tou evs lg):MachX (w.setCell ⟨b,73,none⟩ (.slice none 0 0)) b K s vo {R with log:=.slice none 0 0} M vt logs tou evs []:=by
 have hf:Fr w (w.setCell ⟨b,73,none⟩ (.slice none 0 0)) (machF b vo M vt) (machF b vo M vt):=frB w b vo M vt 73 _;exact⟨h.m.put (R':={R with log:=.slice none 0 0}) rfl (h.m.o.m.setLog _) rfl rfl,own_fr h.ev hf h.ev_apart,fun x hx=>own_fr (h.ea x hx) hf (h.ea_apart x hx),h.eo,World.ownsRow_nil _ _ _ _,Nat.zero_le _,fun g e=>by cases e⟩
theorem frLog (w:World) (b:Nat) (vo:Value) (R R':MacR) (M:MemK) (vt:Value) (j:Nat) (v:Value) (he:R'.events=R.events) (hl:R'.log=R.log∨R'.log=.slice none 0 0):Fr w (w.setCell ⟨b,j,none⟩ v) (allF b vo R M vt) (allF b vo R' M vt):=by
 have h:=Fr.setCell w (F:=allF b vo R M vt) (a:=⟨b,j,none⟩) (.inl (.inl (.inl rfl))) v;refine⟨h.os,h.tape,h.output,h.size,h.block,fun k hk=>.inl ?_⟩;rcases hk with hk|hk|hk
 ·exact .inl hk
 ·rw[he]at hk;exact .inr (.inl hk)
 ·rcases hl with e|e
  ·rw[e]at hk;exact .inr (.inr hk)
  ·rw[e]at hk;cases hk
theorem mtouched_all (h:MachX w b K s vo R M vt logs tou evs lg) {mb:Nat} (hmd:K.md=.pointer (some ⟨mb,0,none⟩)) :
 Calls Tryz.prog 19 #[.pointer (some ⟨b,0,none⟩)] w fun e w'=>e=.returned R.log∧MachX w' b K s vo {R with log:=.slice none 0 0} M vt logs tou evs []∧w'.ownsRow 0 66 2 R.log lg.length (encT lg)∧Fr w w' (allF b vo R M vt) (allF b vo {R with log:=.slice none 0 0} M vt):=by
 obtain⟨la,lc,hl,-⟩:=own_sl h.lr;refine(mtouched_any h.m.o.m hmd hl).mono ?_;rintro e w'⟨rfl,rfl⟩;have hf:Fr w (w.setCell ⟨b,73,none⟩ (.slice none 0 0)) (machF b vo M vt) (machF b vo M vt):=frB w b vo M vt 73 _;exact⟨by rw[hl],h.clearLog,own_fr h.lr hf h.lr_apart,frLog w b vo R _ M vt 73 _ rfl (.inr rfl)⟩
theorem mlog_all (h:MachX w b K s vo R M vt logs tou evs lg) {mb:Nat} (hmd:K.md=.pointer (some ⟨mb,0,none⟩)) (on:Bool) :
 Calls Tryz.prog 18 #[.pointer (some ⟨b,0,none⟩),.bool on] w fun e w'=>e=.returned (.tuple #[])∧MachX w' b K s vo {R with on:=on,log:=.slice none 0 0} M (.slice none 0 0) on [] evs []∧Fr w w' (allF b vo R M vt) (allF b vo {R with on:=on,log:=.slice none 0 0} M (.slice none 0 0)):=by
 have HM:=Lib.hid (mmade_any h.m.o.m hmd);have h1:=(h.setOn on).clearLog;have hf1:=(frLog w b vo R {R with on:=on} M vt 72 (.bool on) rfl (.inl rfl)).trans (frLog _ b vo {R with on:=on} {R with on:=on,log:=.slice none 0 0} M vt 73 (.slice none 0 0) rfl (.inr rfl));have HL:=Lib.hid (log_mem h1.m.mem on);have c72:=h.m.o.m.c72;have c73:=h.m.o.m.c73;have c65:=h.m.o.m.cells.c65;rw[h.m.km]at c65;have z72:=h.m.o.m.cells.fz 72;have z73:=h.m.o.m.cells.fz 73;have H1:=Lib.hid h1;have HF1:=Lib.hid hf1;clear h h1 hf1 hmd;go_enter Tryz.func18,Tryz.ntmps18;go_wp2_with fail;refine HM.out.mono ?_;rintro e w1⟨rfl,rfl⟩;go_wp2_with fail;refine HL.out.mono ?_;rintro e w2⟨rfl,hm2,hf2⟩;go_wp2_with fail
 go_end0
 have hM:=H1.out.m.liftM hm2 hf2;have hf:=frM hf2 b vo;have hx:=H1.out;exact⟨rfl,⟨hM,own_fr hx.ev hf hx.ev_apart,fun x h=>own_fr (hx.ea x h) hf (hx.ea_apart x h),hx.eo,World.ownsRow_nil _ _ _ _,Nat.zero_le _,fun g e=>by cases e⟩,HF1.out.trans (frA hf _)⟩
end
structure Rdy (w0 w:World) (b:Nat) (K:MacK) (s:St) (vo:Value) (R:MacR) (M:MemK) (vt:Value) (lg:List (Nat×Bool)) (gr:List (Nat×Int)) (mb:Nat) (m:Img):Prop where
 st:Stat w0 K mb m gr
 x:MachX w b K s vo R M vt R.on [] [] lg
 home:Home w0 w (allF b vo R M vt)
 wf:Wf s
 fit:(moOf m).fits s=true
 rn:R.replies=.slice none 0 0
 en:R.events=.slice none 0 0
structure Res where
 en:Nat
 at_:Nat
 value:Nat
 fault:Nat
 used:Nat
 nrep:Nat
 ev:List Ev
 ask:Ev
def askZ:Ev:=⟨0,0,[],0⟩
def resOf (n:Nat) (g:GoR):Res:=
 if g.st.life=1 then⟨if g.ask.isSome then 4 else 3,g.st.pc,0,0,g.used,n - g.reps.length,g.ev,g.ask.getD askZ⟩
 else⟨restE g.st,restP g.st,restS g.st,restF g.st,g.used,n - g.reps.length,g.ev,askZ⟩
def EvsAt (w:World) (F:Nat→Prop) (v:Value) (l:List Ev):Prop:=
 ∃xs:List (Ev×Value),xs.map (·.1)=l∧w.ownsRow 0 42 4 v xs.length (encE xs)∧(∀g,v.ownBlock=some g→¬F g)∧∀x∈xs,w.ownsRow 0 25 1 x.2 x.1.args.length (encN .u32 x.1.args)∧∀g,x.2.ownBlock=some g→¬F g
def resRow (r:Res) (ve va:Value):Array Value:=#[.int .u8 r.en,.int .u32 r.at_,.int .u32 r.value,.int .u8 r.fault,.int .i64 r.used,.int .i64 r.nrep,ve,.int .u32 r.ask.at_,.int .u32 r.ask.num,va,.int .u32 r.ask.val]
def ResAt (w:World) (F:Nat→Prop) (v:Value) (r:Res):Prop:=
 ∃ve va,v=.agg (resRow r ve va)∧EvsAt w F ve r.ev∧w.ownsRow 0 25 1 va r.ask.args.length (encN .u32 r.ask.args)∧∀g,va.ownBlock=some g→¬F g
theorem EvsAt.fr {w w':World} {F F':Nat→Prop} {v:Value} {l:List Ev} (h:EvsAt w F v l) (hf:Fr w w' F F'):EvsAt w' F' v l:=by
 obtain⟨xs,h1,h2,h3,h4⟩:=h;exact⟨xs,h1,own_fr h2 hf h3,fun g e=>hf.notF (h2.lt g e).2 (h3 g e),fun x hx=>⟨own_fr (h4 x hx).1 hf (h4 x hx).2,fun g e=>hf.notF ((h4 x hx).1.lt g e).2 ((h4 x hx).2 g e)⟩⟩
theorem ResAt.fr {w w':World} {F F':Nat→Prop} {v:Value} {r:Res} (h:ResAt w F v r) (hf:Fr w w' F F'):ResAt w' F' v r:=by
 obtain⟨ve,va,h1,h2,h3,h4⟩:=h;exact⟨ve,va,h1,h2.fr hf,own_fr h3 hf h4,fun g e=>hf.notF (h3.lt g e).2 (h4 g e)⟩
section
variable {w0 w:World} {b:Nat} {K:MacK} {s:St} {vo:Value} {R:MacR} {M:MemK} {vt:Value} {evs:List (Ev×Value)} {lg:List (Nat×Bool)}
def MacR.free (R:MacR):MacR:={R with replies:=.slice none 0 0,events:=.slice none 0 0}
def finRes (s:St) (en u n:Nat) (l:List Ev) (ask:Ev):Res:=
 if s.life=1 then⟨en,s.pc,0,0,u,n,l,ask⟩else⟨restE s,restP s,restS s,restF s,u,n,l,askZ⟩
def FinPost (b:Nat) (K:MacK) (s:St) (vo:Value) (R:MacR) (M:MemK) (vt:Value) (lg:List (Nat×Bool)) (qR:Nat) (r:Res) (w:World) (e:Ending) (w':World):Prop:=
 e=.returned (.tuple #[])∧∃ve va,w'.heap[qR]?=some (.cells (resRow r ve va) 44 (0,0))∧ResAt w' (allF b vo R.free M vt) (.agg (resRow r ve va)) r∧MachX w' b K s vo R.free M vt R.on [] [] lg∧Fr w w' (fun k=>allF b vo R M vt k∨k=qR) (fun k=>allF b vo R.free M vt k∨k=qR)
theorem fin_back {w':World} {qR:Nat} (x:MachX w b K s vo R M vt R.on [] evs lg) (nR:¬allF b vo R M vt qR) (hR:∃old,w.heap[qR]?=some (.cells old 44 (0,0)))
 (hm:MacB w' b K (macV s vo R.free)) (hf:Fr w w' (fun k=>k=qR∨k=b) (fun k=>k=qR∨k=b)) {ask:Ev} {va:Value} (hva:w.ownsRow 0 25 1 va ask.args.length (encN .u32 ask.args)) (hvo:∀g,va.ownBlock=some g→¬allF b vo R M vt g) {r:Res} (hr:w'.heap[qR]?=some (.cells (resRow r R.events va) 44 (0,0)))
 (h1:r.ev=evs.map (·.1)) (h2:r.ask=ask):FinPost b K s vo R M vt lg qR r w (.returned (.tuple #[])) w':=by
 obtain⟨old,hR⟩:=hR
 have hne:∀{B e sz n:Nat} {v:Value} {xs:List Value},w.ownsRow B e sz v n xs→e≠44→(∀g,v.ownBlock=some g→g≠b)→∀g,v.ownBlock=some g→¬(g=qR∨g=b):=
  fun ho he hb g hg e=>e.elim (fun e=>not_row_of ho hR he (by rw[←e];exact hg)) (fun e=>hb g hg e)
 have hbF:∀g,¬machF b vo M vt g→g≠b:=fun g h e=>h (.inl (.inl e));have hev:=own_fr x.ev hf (hne x.ev (by decide) (fun g e=>hbF g (x.ev_apart g e)));have hea:=fun y hy=>own_fr (x.ea y hy) hf (hne (x.ea y hy) (by decide) (fun g e=>hbF g (x.ea_apart y hy g e)));have hlr:=own_fr x.lr hf (hne x.lr (by decide) (fun g e=>hbF g (x.lr_apart g e)));have hoo:=own_fr x.m.o.o hf (hne x.m.o.o (by decide) (fun g e e2=>x.m.o.m.not_own x.m.o.o (by decide) (by rw[←e2];exact e)));have hmm:=x.m.mem.fr hf (fun k hk e=>e.elim (fun e=>nR (by rw[←e];exact .inl (.inr hk))) (fun e=>ops_mem_apart x.m.o x.m.mem k hk (.inl e)));have hX:MachX w' b K s vo R.free M vt R.on [] [] lg:=⟨⟨⟨hm,hoo⟩,hmm,x.m.km⟩,World.ownsRow_nil _ _ _ _,fun y hy=>(by cases hy),fun y hy=>(by cases hy),hlr,x.ll,x.lv⟩
 have hfr:Fr w w' (fun k=>allF b vo R M vt k∨k=qR) (fun k=>allF b vo R.free M vt k∨k=qR):=
  hf.mono (fun i e=>e.elim .inr (fun e=>.inl (.inl (.inl (.inl e))))) (fun i e=>e.elim (fun e=>e.elim (fun e=>.inl (.inl (.inl e))) (fun e=>e.elim (fun e=>by cases e) (fun e=>.inl (.inl (.inr (.inr e)))))) (fun e=>.inl (.inr e)))
 have hallF:∀g,allF b vo R.free M vt g→machF b vo M vt g∨R.log.ownBlock=some g:=fun g e=>e.elim .inl (fun e=>e.elim (fun e=>by cases e) .inr);have hva':=own_fr hva hf (hne hva (by decide) (fun g e=>hbF g (fun e2=>hvo g e (.inl e2))));refine⟨rfl,R.events,va,hr,⟨R.events,va,rfl,⟨evs,h1.symm,hev,fun g hg e=>(hallF g e).elim (x.ev_apart g hg) (fun e=>own_apart x.ev x.lr (by decide) g hg e),fun y hy=>⟨hea y hy,fun g hg e=>(hallF g e).elim (x.ea_apart y hy g hg) (fun e=>own_apart (x.ea y hy) x.lr (by decide) g hg e)⟩⟩,?_,fun g hg e=>hvo g hg ((hallF g e).elim .inl (fun e=>.inr (.inr e)))⟩,hX,hfr⟩;rw[h2];exact hva'
theorem go2_fin {qE q3 qA qR qU qP:Nat} (x:MachX w b K s vo R M vt R.on [] evs lg) {en u n:Nat} {ask:Ev} {va:Value} {pa ra:Option Addr} {pn pc rn rc:Nat}
 (hE:w.heap[qE]?=some (.cells #[.int .u8 en] 38 (0,0))) (h3:w.heap[q3]?=some (.cells #[.pointer (some ⟨b,0,none⟩)] 35 (0,0))) (hA:w.heap[qA]?=some (.cells #[.int .u32 ask.at_,.int .u32 ask.num,va,.int .u32 ask.val] 42 (0,0)))
 (hva:w.ownsRow 0 25 1 va ask.args.length (encN .u32 ask.args)) (hvo:∀g,va.ownBlock=some g→¬allF b vo R M vt g)
 {old:Array Value} (hR:w.heap[qR]?=some (.cells old 44 (0,0))) (ho:old.size=11) (hU:w.heap[qU]?=some (.cells #[.int .i64 u] 3 (0,0))) (hP:w.heap[qP]?=some (.cells #[.slice pa pn pc] 32 (0,0)))
 (nE:qE≠qR) (n3:q3≠qR) (nA:qA≠qR) (nU:qU≠qR) (nP:qP≠qR) (nR:¬allF b vo R M vt qR)
 (hre:R.replies=.slice ra rn rc) (hn:n+rn=pn) (hpm:pn≤maxLen) :
 CallsD Tryz.prog 28 #[.pointer (some ⟨qE,0,none⟩),.pointer (some ⟨q3,0,none⟩),.pointer (some ⟨qA,0,none⟩),.pointer (some ⟨qR,0,none⟩),.pointer (some ⟨qU,0,none⟩),.pointer (some ⟨qP,0,none⟩)] .returning w (fun e u' w'=>u'=.returning∧FinPost b K s vo R M vt lg qR (finRes s en u n (evs.map (·.1)) ask) w e w'):=by
 obtain⟨aa,ac,hva2,-⟩:=own_sl hva;obtain⟨ea,ec,hve,-⟩:=own_sl x.ev;have nb:b≠qR:=fun e=>nR (by rw[←e];exact .inl (.inl (.inl rfl)));have e1:((pn:Int) - (rn:Int))=(n:Int):=by omega
 have hw1:IntKind.i64.wrap ((pn:Int) - (rn:Int))=(pn:Int) - (rn:Int):=IntWalk.i64_in _ (by unfold maxLen at hpm;omega);rw[hva2]at hA;by_cases hl:s.life=1
 ·refine(go2_run x.m.o.m hE h3 hA hR ho hU hP nE n3 nA nU nP nb hre hve hw1 hl).mono ?_
  rintro e u' w'⟨rfl,rfl,hm,hr,hf⟩;refine⟨rfl,?_⟩;refine fin_back x nR ⟨old,hR⟩ hm hf hva hvo ?_ (by unfold finRes;rw[if_pos hl]) (by unfold finRes;rw[if_pos hl]);rw[hr,e1,hva2,hve];unfold finRes;rw[if_pos hl];rfl
 ·refine(go2_rest x.m.o.m hE h3 hA hR ho hU hP nE n3 nA nU nP nb hre hve hw1 hl (fun W hW=>mrest_any hW)).mono ?_
  rintro e u' w'⟨rfl,rfl,hm,hr,hf⟩;refine⟨rfl,?_⟩;refine fin_back x nR ⟨old,hR⟩ hm hf (ask:=askZ) (va:=.slice none 0 0) (World.ownsRow_nil _ _ _ _) (fun g e=>by cases e) ?_ (by unfold finRes;rw[if_neg hl]) (by unfold finRes;rw[if_neg hl]);rw[hr,e1,hve];unfold finRes;rw[if_neg hl];rfl
end
theorem run_b51f (x0 x1 x2 x5 x6:Int) (a a':Option Addr) (n c n' c':Nat) (w:World):(Instr.build 51 #[(0,.int .u8 x0),(1,.int .u32 x1),(2,.int .u32 x2),(3,.slice a n c),(4,.slice a' n' c'),(5,.int .u32 x5),(6,.int .u8 x6)]).run Tryz.prog w=.ok (.agg #[.int .u8 x0,.int .u32 x1,.int .u32 x2,.slice a n c,.slice a' n' c',.int .u32 x5,.int .u8 x6]) w:=by kernel_rfl
section
variable {w:World} {b:Nat} {K:MacK} {s:St} {vo:Value} {R:MacR} {M:MemK} {vt:Value} {logs:Bool} {tou:List (Nat×Bool)}
def StatePost (M:MemK) (s:St) (w:World) (e:Ending) (w':World):Prop:=
 ∃v1 v2,e=.returned (stV v1 v2 s)∧w'.ownsRow w.heap.size 25 1 v1 s.ops.length (encN .u32 s.ops)∧w'.ownsRow w.heap.size 5 1 v2 M.N (encN .u8 s.data)∧Below w.heap.size w w'
theorem mstate_any (h:Mach w b K s vo R M vt logs tou) {mb:Nat} (hmd:K.md=.pointer (some ⟨mb,0,none⟩)) (hn:s.ops.length≤65536) :
 Calls Tryz.prog 11 #[.pointer (some ⟨b,0,none⟩)] w (StatePost M s w):=by
 have hmx:Tryz.prog.follows .mixedOrders=true:=by kernel_rfl
 have hz:=zeroS51;have hbb:=run_b51f;obtain⟨W1,hW1⟩:∃W1,W1=w.alloc (.cells #[.int .u8 0,.int .u32 0,.int .u32 0,.slice none 0 0,.slice none 0 0,.int .u32 0,.int .u8 0] 51):=⟨_,rfl⟩;have hb1:Below w.heap.size w W1:=by rw[hW1];exact Bel.new _ _
 have hr1:W1.heap[w.heap.size]?=some (.cells #[.int .u8 0,.int .u32 0,.int .u32 0,.slice none 0 0,.slice none 0 0,.int .u32 0,.int .u8 0] 51 (0,0)):=by rw[hW1];exact heap_alloc_new _ _
 have HMade:=Lib.hid (mmade_any (h.below hb1).o.m hmd);obtain⟨va,vc,hvo,-⟩:=own_sl (show w.ownsRow 0 25 1 vo s.ops.length (encN .u32 s.ops)from h.o.o);obtain⟨n,hnn⟩:∃n,n=s.ops.length:=⟨_,rfl⟩;rw[←hnn]at hvo
 have HS:=Lib.hid (fun W (hW:Below w.heap.size w W)=>by
  have k:=(h.below hW).o.m;have kd:=k.cells70;have k66:=k.cells.c66;have k67:=k.cells.c67;have k68:=k.cells.c68;have k69:=k.cells.c69;have k65:=k.cells.c65;rw[h.km]at k65;simp only[macV]at kd k66 k67 k68 k69;rw[hvo]at k69
  exact(⟨⟨⟨k66,k67⟩,⟨k68,k69⟩⟩,⟨⟨k65,kd.1⟩,kd.2⟩⟩:((W.cell? ⟨b,66,none⟩=some (.int .u8 s.life)∧W.cell? ⟨b,67,none⟩=some (.int .u32 s.pc))∧(W.cell? ⟨b,68,none⟩=some (.int .u32 s.sp)∧W.cell? ⟨b,69,none⟩=some (.slice va n vc)))∧((W.cell? ⟨b,65,none⟩=some (.pointer (some ⟨M.p,0,none⟩))∧W.cell? ⟨b,70,none⟩=some (.int .u32 s.value))∧W.cell? ⟨b,71,none⟩=some (.int .u8 s.fault))))
 have HCl:=Lib.hid (fun W (hW:Below w.heap.size w W)=>cloneW_any vo n (encN .u32 s.ops) (by omega) (fun x hx=>by
  obtain⟨y,-,rfl⟩:=List.mem_map.1 hx
  rfl) W (by rw[hnn];exact own_reads (own_below h.o.o hW)))
 rw[hvo]at HCl;have HBy:=Lib.hid (fun W (hW:Below w.heap.size w W)=>bytes_mem (h.mem.below hW));have HNN:=Lib.hid hnn;have HB1:=Lib.hid hb1;have HR1:=Lib.hid hr1;have hN5:M.N=s.data.length:=h.mem.len.symm;have HN5:=Lib.hid hN5;obtain⟨Ψ,hΨ⟩:∃Ψ,Ψ=StatePost M s w:=⟨_,rfl⟩;rw[←hΨ];have HPsi:=Lib.hid hΨ;clear h hmd hn hb1 hr1 hvo hnn hN5 hΨ;go_enter Tryz.func11,Tryz.ntmps11;go_wp2_with fail;rw[←hW1];clear hW1;refine HMade.out.mono ?_;rintro e w1⟨rfl,rfl⟩;go_wp2_with fail;have hH0:=HS.out w1.drew HB1.out.drew;refine wp_region_held_drew (S:=fun W=>((W.cell? ⟨b,66,none⟩=some (.int .u8 s.life)∧W.cell? ⟨b,67,none⟩=some (.int .u32 s.pc))∧(W.cell? ⟨b,68,none⟩=some (.int .u32 s.sp)∧W.cell? ⟨b,69,none⟩=some (.slice va n vc)))∧((W.cell? ⟨b,65,none⟩=some (.pointer (some ⟨M.p,0,none⟩))∧W.cell? ⟨b,70,none⟩=some (.int .u32 s.value))∧W.cell? ⟨b,71,none⟩=some (.int .u8 s.fault))) hmx hH0 (fun hHeld=>?_);refine tk 0 hHeld ?_;refine tk 1 hHeld ?_;refine tk 2 hHeld ?_;refine tk 3 hHeld ?_;refine tk 4 hHeld ?_;refine tk 5 hHeld ?_;refine tk 6 hHeld ?_;refine tk 7 hHeld ?_;refine tk 8 hHeld ?_;refine tk 9 hHeld ?_;refine tk 10 hHeld ?_;refine tk 11 hHeld ?_;refine tk 12 hHeld ?_;refine tk 13 hHeld ?_;refine tk 14 hHeld ?_;refine tk 15 hHeld ?_;refine tk 17 hHeld ?_;refine tk 18 hHeld ?_;refine tk 19 hHeld ?_;refine tk 20 hHeld ?_;refine tk 22 hHeld ?_;refine tk 23 hHeld ?_;refine tk 24 hHeld ?_;refine tk 25 hHeld ?_;refine tk 26 hHeld ?_;refine tk 27 hHeld ?_;refine tk 28 hHeld ?_;refine tk 29 hHeld ?_;refine rd 16 _ fun K hK=>?_;go_simp;refine(HCl.out w1.drew HB1.out.drew).mono ?_;rintro e w2⟨v1,rfl,ho1,hb2⟩;obtain⟨a1,c1,rfl,-⟩:=own_sl ho1;have hB2:=Bel.tr HB1.out.drew hb2;have hH2:=HS.out w2 hB2;refine hK.out _ _ hH2 (fun _=>?_);clear hK K
 try simp only[Act.put,aT,aZ,aS]
 refine rd 21 _ fun K hK=>?_;go_simp;refine(HBy.out w2 hB2).mono ?_;rintro e w3⟨v2,rfl,ho2,hb3⟩;obtain⟨a2,c2,rfl,-⟩:=own_sl ho2;have hB3:=Bel.tr hB2 hb3;have hH3:=HS.out w3 hB3;refine hK.out _ _ hH3 (fun _=>?_);clear hK K
 try simp only[Act.put,aT,aZ,aS]
 refine tk 30 hH3 ?_;have hr3:=(hb3.block w.heap.size (Nat.lt_of_lt_of_le (Array.getElem?_eq_some_iff.1 HR1.out).1 hb2.size)).trans ((hb2.block w.heap.size (Array.getElem?_eq_some_iff.1 HR1.out).1).trans (HR1.out:w1.drew.heap[w.heap.size]?=_));refine rd 31 ⟨none,.store 51 (.tmp 2) (.tmp 37),_,_,_,none⟩ fun K hK=>?_;rw[if_pos (by rfl)];refine outs_wp (R:=fun v W'=>v=undef∧W'=w3.setRow w.heap.size #[.int .u8 s.life,.int .u32 s.pc,.int .u32 s.sp,.slice a1 n c1,.slice a2 M.N c2,.int .u32 s.value,.int .u8 s.fault]) (outs_store_row 51 (.tmp 2) (.tmp 37) rfl w.heap.size _ rfl rfl 51 _ hr3 info51 (by rfl) (by simp[Value.oneCell']) ⟨rfl,rfl⟩) ?_;rintro _ _⟨rfl,rfl⟩;have hb4:=below_setRow hB3 w.heap.size (Nat.le_refl _) #[.int .u8 s.life,.int .u32 s.pc,.int .u32 s.sp,.slice a1 n c1,.slice a2 M.N c2,.int .u32 s.value,.int .u8 s.fault];have hH4:=HS.out _ hb4;refine hK.out _ _ hH4 (fun _=>?_);clear hK K
 try simp only[Act.put,aT,aZ,aS]
 refine wpAnyH_done (by kernel_rfl) ?_ _;have hw1:w.heap.size<w1.heap.size:=(Array.getElem?_eq_some_iff.1 HR1.out).1;have hq1:∀g,(Value.slice a1 n c1).ownBlock=some g→g≠w.heap.size:=fun g e=>by have:=(ho1.lt g e).1;simp only[World.size_drew]at this;omega
 have hq2:∀g,(Value.slice a2 M.N c2).ownBlock=some g→g≠w.heap.size:=fun g e=>by have:=(ho2.lt g e).1;have:=hb2.size;simp only[World.size_drew]at this;omega
 have hr4:(w3.setRow w.heap.size #[.int .u8 s.life,.int .u32 s.pc,.int .u32 s.sp,.slice a1 n c1,.slice a2 M.N c2,.int .u32 s.value,.int .u8 s.fault]).heap[w.heap.size]?=_:=setRow_heap _ _ _ _ _ _ hr3
 have hset:∀{B e sz k:Nat} {v:Value} {xs:List Value},w3.ownsRow B e sz v k xs→w.heap.size≤B→(∀g,v.ownBlock=some g→g≠w.heap.size)→(w3.setRow w.heap.size #[.int .u8 s.life,.int .u32 s.pc,.int .u32 s.sp,.slice a1 n c1,.slice a2 M.N c2,.int .u32 s.value,.int .u8 s.fault]).ownsRow w.heap.size e sz v k xs:=fun h0 hB hg=>by
  refine⟨h0.1,?_⟩;rcases h0.2 with⟨e1,e2⟩|⟨g',cap',cur,e1,hbb,hg',rest⟩
  ·exact .inl ⟨e1,e2⟩
  ·exact .inr ⟨g',cap',cur,e1,Nat.le_trans hB hbb,(setRow_other _ _ _ _ (hg g' (by rw[e1];rfl))).trans hg',rest⟩
 have HO1:=Lib.hid (hset (own_below ho1 hb3) (by simp only[World.size_drew];omega) hq1);have HO2:=Lib.hid (hset ho2 (by have:=hb2.size;simp only[World.size_drew]at this;omega) hq2);have HR4:=Lib.hid hr4;have HB4:=Lib.hid hb4;clear hHeld hH0 hH2 hH3 hH4 hr3 hr4 hb2 hb3 hb4 hB2 hB3 ho1 ho2 hq1 hq2 hset;go_wp2_with fail;refine bodyPost_ret (v:=.agg #[.int .u8 s.life,.int .u32 s.pc,.int .u32 s.sp,.slice a1 n c1,.slice a2 M.N c2,.int .u32 s.value,.int .u8 s.fault]) (results_cell_rest Tryz.results11 _ _ w.heap.size 51 _ (0,0) _ rfl HR4.out Tryz.underlying51 rfl (size51 _ _ _ _ _ _ _)) rfl ?_;rw[HPsi.out];exact⟨_,_,rfl,by rw[←HNN.out];exact HO1.out,HO2.out,HB4.out⟩
end
theorem Fr.drop {w w1:World} {F F1:Nat→Prop} {q:Nat} (h:Fr w w1 (fun i=>F i∨i=q) (fun i=>F1 i∨i=q)) (hq:w.heap.size≤q):Fr w w1 F F1:=
 ⟨h.os,h.tape,h.output,h.size,fun k hk hn=>h.block k hk (fun e=>e.elim hn (fun e=>by omega)),fun k hk=>(h.foot k (.inl hk)).elim (fun e=>e.elim .inl (fun e=>.inr (by omega))) .inr⟩
theorem Fr.add {w w1:World} {F F1:Nat→Prop} {q:Nat} (h:Fr w w1 F F1):Fr w w1 (fun i=>F i∨i=q) (fun i=>F1 i∨i=q):=
 h.mono (fun i e=>.inl e) (fun i e=>e.elim .inr (fun e=>.inl (.inr e)))
theorem stepM_repl {mo:Mo} {gr:List (Nat×Int)} {reps:List Rep} {s:St}:(stepM mo gr reps s).reps.length≤reps.length:=by
 unfold stepM
 split
 ·exact Nat.le_refl _
 ·split
  ·simp
  ·exact Nat.le_refl _
theorem waitsM_val {mo:Mo} {gr:List (Nat×Int)} {reps:List Rep} {s:St} {ev:Ev} (h:waitsM mo gr reps s=some ev):ev.val=0:=by
 unfold waitsM at h
 split at h
 ·obtain⟨n,-,rfl⟩:=Option.map_eq_some_iff.1 h
  rfl
 ·cases h
theorem alloc3_rows (X:World) (A B C:Obj):(((X.alloc A).alloc B).alloc C).heap[X.heap.size]?=some A∧(((X.alloc A).alloc B).alloc C).heap[X.heap.size+1]?=some B∧(((X.alloc A).alloc B).alloc C).heap[X.heap.size+1+1]?=some C∧Below X.heap.size X (((X.alloc A).alloc B).alloc C):=by
 have e1:(X.alloc A).heap.size=X.heap.size+1:=World.size_alloc ..;have e2:((X.alloc A).alloc B).heap.size=X.heap.size+1+1:=by rw[World.size_alloc,e1]
 refine⟨?_,?_,?_,Bel.tr (Bel.tr (Bel.new _ _) (Bel.new _ _)) (Bel.new _ _)⟩
 ·rw[heap_alloc_old _ _ (by omega),heap_alloc_old _ _ (by omega)];exact heap_alloc_new _ _
 ·rw[heap_alloc_old _ _ (by omega),←e1];exact heap_alloc_new _ _
 ·rw[←e2];exact heap_alloc_new _ _
section
variable {w0 w:World} {b:Nat} {K:MacK} {s:St} {vo:Value} {R:MacR} {M:MemK} {vt:Value} {lg:List (Nat×Bool)} {gr:List (Nat×Int)} {mb:Nat} {m:Img} {reps:List Rep}
structure GoI (w0 W:World) (b:Nat) (K:MacK) (M:MemK) (gr:List (Nat×Int)) (mb:Nat) (m:Img) (F0:Nat→Prop) (on:Bool) (lg0:List (Nat×Bool)) (fuel n0:Nat) (g:GoR) (qU:Nat) (wr:World) (k:Nat) (s:St) (vo:Value) (R:MacR) (vt:Value) (evs:List (Ev×Value)) (reps:List Rep) (t:List (Nat×Bool)) (lg:List (Nat×Bool)):Prop where
 hk:k≤fuel
 x:MachX wr b K s vo R M vt R.on [] evs lg
 lgq:lg=touL on lg0 t
 home:Home w0 wr (allF b vo R M vt)
 wf:Wf s
 fit:(moOf m).fits s=true
 rep:RepsS wr (allF b vo R M vt) R.replies reps
 rl:reps.length≤n0
 on:R.on=on
 evl:evs.length≤k
 rf:repsFit reps=true
 goes:g=(goM (moOf m) gr (fuel - k) reps s).after t (evs.map (·.1)) k
 fr:Fr W wr (fun i=>F0 i∨i=qU) (fun i=>allF b vo R M vt i∨i=qU)
 hU:wr.heap[qU]?=some (.cells #[.int .i64 k] 3 (0,0))
 nU:¬allF b vo R M vt qU
def GoOut (w0:World) (b:Nat) (K:MacK) (s:St) (vo:Value) (R:MacR) (M:MemK) (vt:Value) (lg:List (Nat×Bool)) (gr:List (Nat×Int)) (mb:Nat) (m:Img) (fuel:Nat) (reps:List Rep) (w:World) (e:Ending) (w':World):Prop:=
 ∃v vo' R' vt',e=.returned (.tuple #[v,.int .i64 0])∧ResAt w' (allF b vo' R' M vt') v (resOf reps.length (goM (moOf m) gr fuel reps s))∧
  Rdy w0 w' b K (goM (moOf m) gr fuel reps s).st vo' R' M vt' (touL R.on lg (goM (moOf m) gr fuel reps s).tou) gr mb m∧R'.on=R.on∧Fr w w' (allF b vo R M vt) (allF b vo' R' M vt')
theorem goOut_still (H:Rdy w0 w b K s vo R M vt lg gr mb m) (hl:s.life≠1) {w':World} (fuel:Nat) (hb:Below w.heap.size w w'):GoOut w0 b K s vo R M vt lg gr mb m fuel reps w (.returned (.tuple #[.agg (restRow s),.int .i64 0])) w':=by
 refine⟨_,vo,R,vt,rfl,?_,?_,rfl,Fr.of hb _⟩
 ·rw[goM_still hl]
  unfold resOf;rw[if_neg hl];refine⟨.slice none 0 0,.slice none 0 0,?_,⟨[],rfl,World.ownsRow_nil _ _ _ _,fun g e=>(by cases e),fun y hy=>(by cases hy)⟩,World.ownsRow_nil _ _ _ _,fun g e=>(by cases e)⟩;unfold resRow restRow;simp[askZ]
 ·rw[goM_still hl]
  have ht:touL R.on lg []=lg:=touL_nil _ H.x.ll
  show Rdy w0 w' b K s vo R M vt (touL R.on lg []) gr mb m
  rw[ht];exact⟨H.st,H.x.below hb,H.home.fr (Fr.of hb _),H.wf,H.fit,H.rn,H.en⟩
theorem tinfo53:(Tryz.prog.info? 32).map (·.size)=some 1:=by kernel_rfl
theorem tinfo59:(Tryz.prog.info? 38).map (·.size)=some 1:=by kernel_rfl
theorem setNoEvents {logs:Bool} {tou:List (Nat×Bool)} {v:Value} (h:MachX w b K s vo {R with replies:=v} M vt logs tou [] lg) (he:R.events=.slice none 0 0):MachX (w.setCell ⟨b,75,none⟩ (.slice none 0 0)) b K s vo {R with replies:=v} M vt logs tou [] lg:=by
 have hm:=h.m.o.m.setEvents (.slice none 0 0)
 have e:({macV s vo {R with replies:=v}with events:=.slice none 0 0}:MacV)=macV s vo {R with replies:=v}:=by
  unfold macV;simp[he]
 rw[e]at hm;exact h.put (h.m.put rfl hm rfl rfl) rfl rfl
theorem res_still {n k:Nat} {s':St} {reps':List Rep} {t:List (Nat×Bool)} {e:List Ev} {en:Nat} {ask:Ev} {f:Nat} {mo:Mo} (hl:s'.life≠1):resOf n ((goM mo gr f reps' s').after t e k)=finRes s' en k (n - reps'.length) e ask∧((goM mo gr f reps' s').after t e k).st=s'∧((goM mo gr f reps' s').after t e k).tou=t:=by
 rw[goM_still hl];unfold GoR.after resOf finRes;simp[hl]
theorem res_asks {n k:Nat} {s':St} {reps':List Rep} {t:List (Nat×Bool)} {e:List Ev} {ev:Ev} {f:Nat} {mo:Mo} (hl:s'.life=1) (hw:waitsM mo gr reps' s'=some ev):resOf n ((goM mo gr f reps' s').after t e k)=finRes s' 4 k (n - reps'.length) e ev∧((goM mo gr f reps' s').after t e k).st=s'∧((goM mo gr f reps' s').after t e k).tou=t:=by
 rw[goM_asks hl hw];unfold GoR.after resOf finRes;simp[hl]
theorem res_zero {n k:Nat} {s':St} {reps':List Rep} {t:List (Nat×Bool)} {e:List Ev} {mo:Mo} (hl:s'.life=1) (hw:waitsM mo gr reps' s'=none):resOf n ((goM mo gr 0 reps' s').after t e k)=finRes s' 3 k (n - reps'.length) e askZ∧((goM mo gr 0 reps' s').after t e k).st=s'∧((goM mo gr 0 reps' s').after t e k).tou=t:=by
 rw[goM_zero hw];unfold GoR.after resOf finRes;simp[hl]
theorem go_door (H:Rdy w0 w b K s vo R M vt lg gr mb m) {tmps:Array Value} {qE q3 qA qR qU qP:Nat} (hp6:tmps.getD 6 undef=.pointer (some ⟨qR,0,none⟩)) (hp7:tmps.getD 7 undef=.int .i64 0)
 {wX:World} {s':St} {vo':Value} {R':MacR} {vt':Value} {evs:List (Ev×Value)} {reps':List Rep} {lg':List (Nat×Bool)} (x:MachX wX b K s' vo' R' M vt' R'.on [] evs lg') (home:Home w0 wX (allF b vo' R' M vt')) (wf:Wf s') (fit:(moOf m).fits s'=true)
 (rep:RepsS wX (allF b vo' R' M vt') R'.replies reps') (hon:R'.on=R.on) (fr:Fr w wX (allF b vo R M vt) (allF b vo' R' M vt'))
 {en u:Nat} {ask:Ev} {va:Value} {pa:Option Addr} {pn pc:Nat}
 (hE:wX.heap[qE]?=some (.cells #[.int .u8 en] 38 (0,0))) (h3:wX.heap[q3]?=some (.cells #[.pointer (some ⟨b,0,none⟩)] 35 (0,0))) (hA:wX.heap[qA]?=some (.cells #[.int .u32 ask.at_,.int .u32 ask.num,va,.int .u32 ask.val] 42 (0,0)))
 (hva:wX.ownsRow 0 25 1 va ask.args.length (encN .u32 ask.args)) (hvo:∀g,va.ownBlock=some g→¬allF b vo' R' M vt' g)
 {old:Array Value} (hR:wX.heap[qR]?=some (.cells old 44 (0,0))) (ho:old.size=11) (hU:wX.heap[qU]?=some (.cells #[.int .i64 u] 3 (0,0))) (hP:wX.heap[qP]?=some (.cells #[.slice pa pn pc] 32 (0,0)))
 (hpn:pn=reps.length) (hpm:pn≤maxLen) (hrl:reps'.length≤reps.length)
 (nE:qE≠qR) (n3:q3≠qR) (nA:qA≠qR) (nU:qU≠qR) (nP:qP≠qR) (nR:¬allF b vo' R' M vt' qR) (hqR:w.heap.size≤qR)
 {fu:Nat} {g:GoR} (hg:g=goM (moOf m) gr fu reps s) (hst:resOf reps.length g=finRes s' en u (reps.length - reps'.length) (evs.map (·.1)) ask∧g.st=s'∧touL R.on lg g.tou=lg') :
 Leaves Tryz.prog Tryz.f9 tmps (GoOut w0 b K s vo R M vt lg gr mb m fu reps w) [{target:=.fn (.func 28) #[.pointer (some ⟨qE,0,none⟩),.pointer (some ⟨q3,0,none⟩),.pointer (some ⟨qA,0,none⟩),.pointer (some ⟨qR,0,none⟩),.pointer (some ⟨qU,0,none⟩),.pointer (some ⟨qP,0,none⟩)],args:=#[]}] .returning wX:=by
 obtain⟨ra,rc,hre,-⟩:=id rep;refine leaves_cons (f:=28) (args:=#[.pointer (some ⟨qE,0,none⟩),.pointer (some ⟨q3,0,none⟩),.pointer (some ⟨qA,0,none⟩),.pointer (some ⟨qR,0,none⟩),.pointer (some ⟨qU,0,none⟩),.pointer (some ⟨qP,0,none⟩)]) (by simp) (by simp[go_sem]) ?_;refine(go2_fin (n:=reps.length - reps'.length) x hE h3 hA hva hvo hR ho hU hP nE n3 nA nU nP nR hre (by omega) hpm).mono ?_;rintro e u' w'⟨rfl,rfl,ve,va',hr,hres,hX,hf⟩;refine⟨_,results_cell_tmp Tryz.results9 _ _ qR 44 _ (0,0) _ hp6 hr Tryz.underlying44 rfl (size64 _ _ _ _ _ _ _ _ _ _ _) _ hp7,?_⟩;have hsz:=home.b.size;have hh:Home w0 wX (fun k=>allF b vo' R' M vt' k∨k=qR):=⟨home.b,fun k e=>e.elim (home.f k) (fun e=>by have:=H.home.b.size;omega)⟩;subst hg;obtain⟨h1,h2,h3⟩:=hst;refine⟨_,vo',R'.free,vt',rfl,by rw[h1];exact hres,?_,hon,((fr.add (q:=qR)).trans hf).drop hqR⟩;rw[h2,h3];exact⟨H.st,hX,(hh.fr hf).sub (fun k e=>.inl e),wf,fit,rfl,rfl⟩
theorem Fr.setRow (W:World) (q:Nat) (cs:Array Value):Fr W (W.setRow q cs) (fun k=>k=q) (fun k=>k=q):=
 ⟨rfl,rfl,rfl,by rw[setRow_size];exact Nat.le_refl _,fun k hk hn=>setRow_other _ _ _ _ hn,fun k hk=>.inl hk⟩
theorem Fr.box {w1 w2:World} {F F1:Nat→Prop} {q:Nat} (h:Fr w w1 F F1) (hf:Fr w1 w2 (fun k=>k=q) (fun k=>k=q)) (hq:w.heap.size≤q):Fr w w2 F F1:=
 ⟨hf.os.trans h.os,hf.tape.trans h.tape,hf.output.trans h.output,Nat.le_trans h.size hf.size,fun k hk hn=>(hf.block k (Nat.lt_of_lt_of_le hk h.size) (fun e=>by omega)).trans (h.block k hk hn),h.foot⟩
theorem MachX.newRow {w':World} {evs:List (Ev×Value)} {logs:Bool} {tou:List (Nat×Bool)} {vt9:Value} {n:Nat} {v:Value} {xs:List Value} (x:MachX w b K s vo R M vt logs tou evs lg) (ho:w'.ownsRow w.heap.size 25 1 v n xs) (hm:w'.ownsRow 0 66 2 vt9 tou.length (encT tou)):∀g,v.ownBlock=some g→¬allF b vo R M vt9 g:=fun g hg hf=>by
 have h1:=(ho.lt g hg).1;rcases hf with((rfl|hf)|rfl|rfl|hf)|hf|hf
 ·have:=x.m.lt;omega
 ·have:=(x.m.o.o.lt g hf).2;omega
 ·have:=x.m.mem.plt;omega
 ·have:=x.m.mem.glt;omega
 ·exact own_apart (own_base ho) hm (by decide) g hg hf
 ·have:=(x.ev.lt g hf).2;omega
 ·have:=(x.lr.lt g hf).2;omega
theorem MachX.box {w':World} {q t:Nat} {old:Array Value} {evs:List (Ev×Value)} {logs:Bool} {tou:List (Nat×Bool)} (x:MachX w b K s vo R M vt logs tou evs lg) (hq:w.heap[q]?=some (.cells old t (0,0))) (ht:25≠t) (nq:¬allF b vo R M vt q) (hf:Fr w w' (fun k=>k=q) (fun k=>k=q)):MachX w' b K s vo R M vt logs tou evs lg:=
 ⟨x.m.fr' hf (fun k hk e=>nq (.inl (by rw[←e];exact hk))),own_fr x.ev hf (fun g hg e=>nq (.inr (.inl (by rw[←e];exact hg)))),fun y hy=>own_fr (x.ea y hy) hf (fun g hg e=>not_row_of (x.ea y hy) hq ht (by rw[←e];exact hg)),x.eo,own_fr x.lr hf (fun g hg e=>nq (.inr (.inr (by rw[←e];exact hg)))),x.ll,x.lv⟩
theorem Home.box {w':World} {F:Nat→Prop} {q:Nat} (h:Home w0 w F) (hf:Fr w w' (fun k=>k=q) (fun k=>k=q)) (hq:w0.heap.size≤q):Home w0 w' F:=
 ((⟨h.b,fun k e=>e.elim (h.f k) (fun e=>by omega)⟩:Home w0 w (fun i=>F i∨i=q)).fr (hf.mono (G:=fun i=>F i∨i=q) (G1:=fun i=>F i∨i=q) (fun i e=>.inr e) (fun i e=>.inl e))).sub (fun k e=>.inl e)
theorem RepsS.none' {w':World} {F F':Nat→Prop} {v:Value} (h:RepsS w F v []):RepsS w' F' v []:=by
 obtain⟨a,cap,hv,h1,h2,h3,-⟩:=h;exact⟨a,cap,hv,h1,h2,h3,by simp⟩
theorem row3 {q k j:Nat} {v:Value} (hq:w.heap[q]?=some (.cells #[.int .i64 k] 3 (0,0))) (hc:w.cell? ⟨q,j,none⟩=some v):v=.int .i64 k:=by
 have:=cell_of_row w q j _ _ _ hq;rw[this]at hc;cases j with
 | zero=>simpa using hc.symm
 | succ j=>simp at hc
theorem Bytes.box {F:Nat→Prop} {q k:Nat} {v:Value} {l:List Nat} (hq:w.heap[q]?=some (.cells #[.int .i64 k] 3 (0,0))) (h:Bytes w v l) (ho:Out F v):Out (fun i=>F i∨i=q) v:=by
 intro b off n c e h0 hF;rcases hF with hF|rfl
 ·exact ho b off n c e h0 hF
 ·obtain⟨⟨a,cap,hv,hl,hn,hm,ha,hp⟩,-⟩:=h
  rw[hv]at e;cases e;obtain⟨b',off',e',hlt,hc⟩:=hp h0;cases e';have hlen:(encN IntKind.u8 l).length=l.length:=by unfold encN;simp
  have h1:=hc 0 (by rw[hlen];exact h0)
  have h2:(encN IntKind.u8 l)[0]?=some (.int .u8 (l.getD 0 0)):=by
   unfold encN;cases l with
   | nil=>simp at h0
   | cons x l=>simp
  rw[h2]at h1;have:=row3 hq h1;cases this
theorem WsS.box {F:Nat→Prop} {q k:Nat} {v:Value} {ws:List (Nat×List Nat)} (hq:w.heap[q]?=some (.cells #[.int .i64 k] 3 (0,0))) (h:WsS w F v ws):WsS w (fun i=>F i∨i=q) v ws:=by
 obtain⟨a,cap,hv,h1,h2,h3,h4⟩:=h;refine⟨a,cap,hv,h1,h2,h3,fun h0=>?_⟩;obtain⟨b,off,us,ha,hl,hb,hc⟩:=h4 h0;refine⟨b,off,us,ha,hl,fun e=>e.elim hb (fun e=>?_),fun i hi=>⟨(hc i hi).1,(hc i hi).2.1,(hc i hi).2.2.1,Bytes.box hq (hc i hi).2.2.1 (hc i hi).2.2.2⟩⟩;subst e;have:=row3 hq (hc 0 h0).1;cases this
theorem RepsS.box {F:Nat→Prop} {q k:Nat} {v:Value} {rs:List Rep} (hq:w.heap[q]?=some (.cells #[.int .i64 k] 3 (0,0))) (h:RepsS w F v rs):RepsS w (fun i=>F i∨i=q) v rs:=by
 obtain⟨a,cap,hv,h1,h2,h3,h4⟩:=h;refine⟨a,cap,hv,h1,h2,h3,fun h0=>?_⟩;obtain⟨b,off,us,ha,hl,hb,hc⟩:=h4 h0;refine⟨b,off,us,ha,hl,fun e=>e.elim hb (fun e=>?_),fun i hi=>⟨(hc i hi).1,(hc i hi).2.1,WsS.box hq (hc i hi).2.2⟩⟩;subst e;have:=row3 hq (hc 0 h0).1;cases this
theorem waitsM_nil {mo:Mo} {ev:Ev} (h:waitsM mo gr reps s=some ev):reps=[]:=by
 unfold waitsM at h
 split at h
 ·rfl
 ·cases h
theorem GoI.next {W wr w10:World} {F0:Nat→Prop} {on:Bool} {lg0:List (Nat×Bool)} {fu n0:Nat} {g:GoR} {qU k:Nat} {s':St} {vo':Value} {R':MacR} {vt':Value} {evs':List (Ev×Value)} {reps':List Rep} {t lg':List (Nat×Bool)}
 (I:GoI w0 W b K M gr mb m F0 on lg0 fu n0 g qU wr k s' vo' R' vt' evs' reps' t lg') (hst:Stat w0 K mb m gr) (hl:s'.life=1) (hw:waitsM (moOf m) gr reps' s'=none) (hk:k≠fu) (hq0:w0.heap.size≤qU) (hH:AH w0 wr b K s' vo' R' M vt' R'.on [] evs' lg' gr mb m reps')
 {vo2:Value} {vt2:Value} {R2:MacR} {evs2:List (Ev×Value)} (x10:MachX w10 b K (stepM (moOf m) gr reps' s').st vo2 R2 M vt2 R'.on [] evs2 (touL R'.on lg' (stepM (moOf m) gr reps' s').tou)) (hev:evs2.map (·.1)=evs'.map (·.1)++(stepM (moOf m) gr reps' s').ev)
 (hrep:RepsS w10 (allF b vo2 R2 M vt2) R2.replies (stepM (moOf m) gr reps' s').reps) (hon:R2.on=R'.on) (f10:Fr wr w10 (allF b vo' R' M vt') (allF b vo2 R2 M vt2)) :
 GoI w0 W b K M gr mb m F0 on lg0 fu n0 g qU (w10.setCell ⟨qU,0,none⟩ (.int .i64 (k+1:Nat))) (k+1) (stepM (moOf m) gr reps' s').st vo2 R2 vt2 evs2 (stepM (moOf m) gr reps' s').reps (t++(stepM (moOf m) gr reps' s').tou) (touL R'.on lg' (stepM (moOf m) gr reps' s').tou):=by
 have hU:=f10.row I.hU I.nU;have nU:=f10.notF (Array.getElem?_eq_some_iff.1 I.hU).1 I.nU;have hf:Fr w10 (w10.setCell ⟨qU,0,none⟩ (.int .i64 (k+1:Nat))) (fun k=>k=qU) (fun k=>k=qU):=Fr.setCell (F:=fun k=>k=qU) _ (a:=⟨qU,0,none⟩) rfl _;have hf2:Fr w10 (w10.setCell ⟨qU,0,none⟩ (.int .i64 (k+1:Nat))) (fun i=>allF b vo2 R2 M vt2 i∨i=qU) (fun i=>allF b vo2 R2 M vt2 i∨i=qU):=Fr.setCell (F:=fun i=>allF b vo2 R2 M vt2 i∨i=qU) _ (a:=⟨qU,0,none⟩) (.inr rfl) _;have hk1:=I.hk;refine⟨by omega,by rw[hon];exact x10.box hU (by decide) nU hf,?_,(I.home.fr f10).box hf hq0,I.wf.step I.x.m.mem.lt I.rep.vals hH.f.ha9,(moOk hst.mod.k).stp hl I.fit gr reps',((hrep.box hU).fr hf2).sub (fun k e=>.inl e),Nat.le_trans stepM_repl I.rl,hon.trans I.on,?_,repsFit_step I.rf,?_,(I.fr.trans f10.add).trans hf2,heap_setCell_same _ _ _ _ _ _ hU,nU⟩
 ·rw[I.lgq,I.on,touL_touL]
 ·have:=congrArg List.length hev
  simp only[List.length_map,List.length_append]at this;have h1:=stepM_ev1 (mo:=moOf m) (gr:=gr) (reps:=reps') (s:=s');have:=I.evl;omega
 ·rw[I.goes,show fu - k=(fu - (k+1))+1 from by omega,goM_more hl hw,after_behind,hev]
end
theorem tinfo48:(Tryz.prog.info? 49).map (·.size)=some 1:=by kernel_rfl
theorem tinfo49:(Tryz.prog.info? 39).map (·.size)=some 1:=by kernel_rfl
theorem cells51 {w:World} {g:Nat} {x0 x1 x2 x3 x4 x5 x6:Value} (h:w.heap[g]?=some (.cells #[x0,x1,x2,x3,x4,x5,x6] 51 (0,0))):w.cell? ⟨g,0,none⟩=some x0∧w.cell? ⟨g,1,none⟩=some x1∧w.cell? ⟨g,2,none⟩=some x2∧w.cell? ⟨g,3,none⟩=some x3∧w.cell? ⟨g,4,none⟩=some x4∧w.cell? ⟨g,5,none⟩=some x5∧w.cell? ⟨g,6,none⟩=some x6:=
 ⟨cell_of_row w g 0 _ _ _ h,cell_of_row w g 1 _ _ _ h,cell_of_row w g 2 _ _ _ h,cell_of_row w g 3 _ _ _ h,cell_of_row w g 4 _ _ _ h,cell_of_row w g 5 _ _ _ h,cell_of_row w g 6 _ _ _ h⟩
theorem MacRow.setMem {cs:Array Value} {K:MacK} {V:MacV} (h:MacRow cs K V) (v:Value):MacRow (cs.setIfInBounds 65 v) {K with mem:=v} V:=by
 have hs:=h.size
 have hg:∀(j:Nat) (x:Value),j≠65→cs[j]?=some x→(cs.setIfInBounds 65 v)[j]?=some x:=fun j x hj hx=>by
  rw[Array.getElem?_setIfInBounds,if_neg (fun e=>hj e.symm),hx]
 exact⟨by simpa using hs,hg 0 _ (by omega) h.c0,hg 1 _ (by omega) h.c1,hg 2 _ (by omega) h.c2,fun k hk=>hg _ _ (by omega) (h.acts k hk),hg 63 _ (by omega) h.c63,hg 64 _ (by omega) h.c64,
  by rw[Array.getElem?_setIfInBounds,if_pos rfl,if_pos (by omega)],hg 66 _ (by omega) h.c66,hg 67 _ (by omega) h.c67,hg 68 _ (by omega) h.c68,hg 69 _ (by omega) h.c69,hg 70 _ (by omega) h.c70,hg 71 _ (by omega) h.c71,hg 72 _ (by omega) h.c72,hg 73 _ (by omega) h.c73,hg 74 _ (by omega) h.c74,hg 75 _ (by omega) h.c75⟩
theorem Fr.news {w w1 w2:World} {F F1 G G1:Nat→Prop} (h:Fr w w1 F F1) (h2:Fr w1 w2 G G1) (hG:∀k,G k→w.heap.size≤k):Fr w w2 F F1:=
 ⟨h2.os.trans h.os,h2.tape.trans h.tape,h2.output.trans h.output,Nat.le_trans h.size h2.size,fun k hk hn=>(h2.block k (Nat.lt_of_lt_of_le hk h.size) (fun e=>by have:=hG k e;omega)).trans (h.block k hk hn),h.foot⟩
section
variable {w:World} {b:Nat} {K:MacK} {V:MacV} {s:St} {vo vd:Value} {mb:Nat} {m:Img}
theorem MacB.setMem (h:MacB w b K V) (v:Value):MacB (w.setCell ⟨b,65,none⟩ v) b {K with mem:=v} V:=by
 obtain⟨cs,h,r⟩:=h;exact⟨_,heap_setCell_same w b 65 _ _ _ h,r.setMem v⟩
theorem MacB.below' {w':World} (h:MacB w b K V) (hb:Below w.heap.size w w'):MacB w' b K V:=h.fr (Fr.of hb (fun _=>False)) (fun e=>e)
def PutPost (b:Nat) (K:MacK) (V:MacV) (s:St) (w:World) (e:Ending) (w':World):Prop:=
 e=.returned (.int .i64 0)∧∃p g c v1,w.heap.size≤p∧w.heap.size≤g∧MacB w' b {K with mem:=.pointer (some ⟨p,0,none⟩)} {V with life:=s.life,pc:=s.pc,sp:=s.sp,ops:=v1,value:=s.value,fault:=s.fault}∧
  w'.ownsRow w.heap.size 25 1 v1 s.ops.length (encN .u32 s.ops)∧MemAt w' p g c s.data.length (.slice none 0 0) s.data V.on []∧Fr w w' (fun k=>k=b) (fun k=>k=b)
theorem mput_ok (h:MacB w b K V) (hmd:K.md=.pointer (some ⟨mb,0,none⟩)) (hm:MAt w mb m) (hs:StAt w vo vd s) (hn:s.ops.length≤140737488355328) (hk:TakeOk m) (hf:(moOf m).fits s=true) (hvb:Out (fun k=>k=b) vo) :
 Calls Tryz.prog 15 #[.pointer (some ⟨b,0,none⟩),stV vo vd s] w (PutPost b K V s w):=by
 have hmx:Tryz.prog.follows .mixedOrders=true:=by kernel_rfl
 obtain⟨va,vc,hvo⟩:∃va vc,vo=.slice va s.ops.length vc:=by obtain⟨⟨a,cap,hv,-⟩,-⟩:=hs.o;exact⟨a,cap,hv⟩
 obtain⟨da,dc,hvd⟩:∃da dc,vd=.slice da s.data.length dc:=by obtain⟨⟨a,cap,hv,-⟩,-⟩:=hs.d;exact⟨a,cap,hv⟩
 obtain⟨n,hnn⟩:∃n,n=s.ops.length:=⟨_,rfl⟩;obtain⟨nd,hnd⟩:∃nd,nd=s.data.length:=⟨_,rfl⟩;rw[←hnn]at hvo;rw[←hnd]at hvd;have HFi:=Lib.hid (fun W (hW:Below w.heap.size w W)=>fits_any (hm.below hW) (hs.below hW) hn);have HSt:=Lib.hid hs;have HH:=Lib.hid h;have HNN:=Lib.hid hnn;have HND:=Lib.hid hnd;have HMade:=Lib.hid (fun W (hW:Below w.heap.size w W)=>mmade_any (h.below' hW) hmd);obtain⟨q,hq⟩:∃q,q=w.heap.size:=⟨_,rfl⟩;obtain⟨W1,hW1⟩:∃W1,W1=w.alloc (.cells #[.int .u8 s.life,.int .u32 s.pc,.int .u32 s.sp,.slice va n vc,.slice da nd dc,.int .u32 s.value,.int .u8 s.fault] 51):=⟨_,rfl⟩;have hb1:Below w.heap.size w W1:=by rw[hW1];exact Bel.new _ _
 have hr1:W1.heap[q]?=some (.cells #[.int .u8 s.life,.int .u32 s.pc,.int .u32 s.sp,.slice va n vc,.slice da nd dc,.int .u32 s.value,.int .u8 s.fault] 51 (0,0)):=by rw[hW1,hq];exact heap_alloc_new _ _
 have HB1:=Lib.hid hb1;have HR1:=Lib.hid hr1;have HQ:=Lib.hid hq;have k0:=(h.below' hb1).c0;rw[hmd]at k0;have hH0:W1.drew.cell? ⟨b,0,none⟩=some (.pointer (some ⟨mb,0,none⟩))∧(W1.drew.cell? ⟨q,0,none⟩=some (.int .u8 s.life)∧W1.drew.cell? ⟨q,1,none⟩=some (.int .u32 s.pc)∧W1.drew.cell? ⟨q,2,none⟩=some (.int .u32 s.sp)∧W1.drew.cell? ⟨q,3,none⟩=some (.slice va n vc)∧W1.drew.cell? ⟨q,4,none⟩=some (.slice da nd dc)∧W1.drew.cell? ⟨q,5,none⟩=some (.int .u32 s.value)∧W1.drew.cell? ⟨q,6,none⟩=some (.int .u8 s.fault)):=⟨k0,cells51 hr1⟩;have hst:stV vo vd s=.agg #[.int .u8 s.life,.int .u32 s.pc,.int .u32 s.sp,.slice va n vc,.slice da nd dc,.int .u32 s.value,.int .u8 s.fault]:=by unfold stV;rw[hvo,hvd]
 rw[hst]at HFi⊢;have hfb:b<w.heap.size:=h.lt;have HMD:=Lib.hid hmd;obtain⟨ft,hft⟩:∃ft,ft=(moOf m).fits s:=⟨_,rfl⟩;rw[←hft]at HFi;rw[hf]at hft;subst hft;have hops:=fits_ops (moOk hk) hf
 have hdk:∃k,8≤k∧k≤16∧s.data.length=2 ^ k:=by
  obtain⟨-,b2,b3⟩:=(moOk hk).sizes;unfold Mo.fits at hf;rw[Bool.and_eq_true,decide_eq_true_eq]at hf;exact⟨_,(moOk hk).k8,(moOk hk).k16,hf.1⟩
 have HFm:=Lib.hid (fun W (hW:Below w.heap.size w W)=>from_mem (hs.below hW).d hdk);rw[hvd]at HFm
 have HCl:=Lib.hid (fun W (hW:Fr w W (fun k=>k=b) (fun k=>k=b))=>cloneW_any vo n (encN .u32 s.ops) (by omega) (fun x hx=>by
  obtain⟨y,-,rfl⟩:=List.mem_map.1 hx
  rfl) W (by rw[hnn];exact(hs.o.1.fr hW hvb).1))
 rw[hvo]at HCl;obtain⟨Ψ,hΨ⟩:∃Ψ,Ψ=PutPost b K V s w:=⟨_,rfl⟩;rw[←hΨ];have HPsi:=Lib.hid hΨ;clear hf hdk hops hΨ hvb;clear h hmd hm hs hvo hvd hnn hnd hb1 hr1 k0 hst hn hq;go_enter Tryz.func15,Tryz.ntmps15;go_wp2_with fail;rw[←hW1,←HQ.out];clear hW1;refine(HMade.out W1 HB1.out).mono ?_;rintro e w1⟨rfl,rfl⟩;go_wp2_with fail;refine wp_region_held_drew (S:=fun W=>W.cell? ⟨b,0,none⟩=some (.pointer (some ⟨mb,0,none⟩))∧(W.cell? ⟨q,0,none⟩=some (.int .u8 s.life)∧W.cell? ⟨q,1,none⟩=some (.int .u32 s.pc)∧W.cell? ⟨q,2,none⟩=some (.int .u32 s.sp)∧W.cell? ⟨q,3,none⟩=some (.slice va n vc)∧W.cell? ⟨q,4,none⟩=some (.slice da nd dc)∧W.cell? ⟨q,5,none⟩=some (.int .u32 s.value)∧W.cell? ⟨q,6,none⟩=some (.int .u8 s.fault))) hmx hH0 (fun hHeld=>?_);refine tk 0 hHeld ?_;refine tk 1 hHeld ?_;refine tk 2 hHeld ?_;refine tk 3 hHeld ?_;refine tk 4 hHeld ?_;refine rd 5 _ fun K hK=>?_;go_simp;refine(HFi.out w1.drew HB1.out.drew).mono ?_;rintro e w2⟨rfl,hb2⟩;have hr2:=(hb2.block q (Array.getElem?_eq_some_iff.1 HR1.out).1).trans (HR1.out:w1.drew.heap[q]?=_);have hB2:=Bel.tr HB1.out.drew hb2;have k02:=(HH.out.below' hB2).c0;rw[HMD.out]at k02;have hH2:w2.cell? ⟨b,0,none⟩=some (.pointer (some ⟨mb,0,none⟩))∧(w2.cell? ⟨q,0,none⟩=some (.int .u8 s.life)∧w2.cell? ⟨q,1,none⟩=some (.int .u32 s.pc)∧w2.cell? ⟨q,2,none⟩=some (.int .u32 s.sp)∧w2.cell? ⟨q,3,none⟩=some (.slice va n vc)∧w2.cell? ⟨q,4,none⟩=some (.slice da nd dc)∧w2.cell? ⟨q,5,none⟩=some (.int .u32 s.value)∧w2.cell? ⟨q,6,none⟩=some (.int .u8 s.fault)):=⟨k02,cells51 hr2⟩;refine hK.out _ _ hH2 (fun _=>?_);clear hK K
 try simp only[Act.put,aT,aZ,aS]
 refine tk 6 hH2 ?_;refine wpAnyH_done (by kernel_rfl) ?_ _;have HB2:=Lib.hid hB2;have HR2:=Lib.hid hr2;clear hHeld hH0 hH2 hB2 hr2 hb2 k02;obtain⟨u0,u1,u2,u3,u4,u5,u6⟩:=cells51 HR2.out;go_wp2_with fail;refine(HFm.out w2 HB2.out).mono ?_;rintro e w3⟨p,g,c,rfl,hp3,hg3,hme3,hb3⟩;have hB3:=Bel.tr HB2.out hb3;have hr3:=(hb3.block q (Array.getElem?_eq_some_iff.1 HR2.out).1).trans HR2.out;have c72:=(HH.out.below' hB3).c72;have HLg:=Lib.hid (log_mem hme3 V.on);have HB3:=Lib.hid hB3;have HR3:=Lib.hid hr3;have HP3:=Lib.hid (And.intro hp3 hg3);have l2:=HB2.out.size;clear u0 u1 u2 u3 u4 u5 u6 hb3 hB3 hr3 hme3 hp3 hg3;go_wp2_with fail;refine HLg.out.mono ?_;rintro e w4⟨rfl,hme4,hf4⟩
 have hpq:p≠q∧g≠q∧p≠b∧g≠b:=by
  have:=HP3.out;have:=(Array.getElem?_eq_some_iff.1 HR2.out).1;omega
 have hFw4:Fr w w4 (fun k=>k=b) (fun k=>k=b):=(Fr.of HB3.out _).news hf4 (fun k e=>by
  have:=HP3.out;rcases e with rfl|rfl|e
  ·omega
  ·omega
  ·cases e)
 have hm4:=(HH.out.below' HB3.out).fr hf4 (fun e=>by
  rcases e with e|e|e
  ·exact hpq.2.2.1 e.symm
  ·exact hpq.2.2.2 e.symm
  ·cases e)
 have hr4:=hf4.row HR3.out (fun e=>by
  rcases e with e|e|e
  ·exact hpq.1 e.symm
  ·exact hpq.2.1 e.symm
  ·cases e)
 have c65:=hm4.cells.c65;have z65:=hm4.cells.fz 65;have HM4:=Lib.hid hm4;have HE4:=Lib.hid hme4;have HF4:=Lib.hid hFw4;have HR4:=Lib.hid hr4;have HPQ:=Lib.hid hpq;clear c72 hf4 hme4 hFw4 hm4 hr4 hpq;go_wp2_with fail;have hm5:=HM4.out.setMem (.pointer (some ⟨p,0,none⟩));have hf5:Fr w4 (w4.setCell ⟨b,65,none⟩ (.pointer (some ⟨p,0,none⟩))) (fun k=>k=b) (fun k=>k=b):=Fr.setCell (F:=fun k=>k=b) _ (a:=⟨b,65,none⟩) rfl _;obtain⟨w5,hw5⟩:∃X,X=w4.setCell ⟨b,65,none⟩ (.pointer (some ⟨p,0,none⟩)):=⟨_,rfl⟩;rw[←hw5]at hm5 hf5⊢;clear hw5;have hr5:=hf5.row HR4.out (fun e=>by have:=HQ.out;omega);have t5:=cells51 hr5;have hH5:w5.drew.cell? ⟨q,0,none⟩=some (.int .u8 s.life)∧w5.drew.cell? ⟨q,1,none⟩=some (.int .u32 s.pc)∧w5.drew.cell? ⟨q,2,none⟩=some (.int .u32 s.sp)∧w5.drew.cell? ⟨q,3,none⟩=some (.slice va n vc)∧w5.drew.cell? ⟨q,5,none⟩=some (.int .u32 s.value)∧w5.drew.cell? ⟨q,6,none⟩=some (.int .u8 s.fault):=⟨t5.1,t5.2.1,t5.2.2.1,t5.2.2.2.1,t5.2.2.2.2.2⟩;have hfw5:=(HF4.out.trans hf5).drew;clear c65 z65;refine wp_region_held_drew (S:=fun W=>W.cell? ⟨q,0,none⟩=some (.int .u8 s.life)∧W.cell? ⟨q,1,none⟩=some (.int .u32 s.pc)∧W.cell? ⟨q,2,none⟩=some (.int .u32 s.sp)∧W.cell? ⟨q,3,none⟩=some (.slice va n vc)∧W.cell? ⟨q,5,none⟩=some (.int .u32 s.value)∧W.cell? ⟨q,6,none⟩=some (.int .u8 s.fault)) hmx hH5 (fun hHeld=>?_);refine tk 0 hHeld ?_;refine tk 1 hHeld ?_;refine tk 2 hHeld ?_;refine tk 3 hHeld ?_;refine tk 4 hHeld ?_;refine tk 5 hHeld ?_;refine tk 6 hHeld ?_;refine tk 7 hHeld ?_;refine tk 8 hHeld ?_;refine tk 9 hHeld ?_;refine tk 10 hHeld ?_;refine tk 11 hHeld ?_;refine tk 12 hHeld ?_;refine tk 13 hHeld ?_;refine tk 15 hHeld ?_;refine tk 16 hHeld ?_;refine tk 17 hHeld ?_;refine tk 18 hHeld ?_;refine rd 14 _ fun K hK=>?_;go_simp;refine(HCl.out w5.drew hfw5).mono ?_;rintro e w6⟨v1,rfl,ho6,hb6⟩;obtain⟨a1,c1,rfl,-⟩:=own_sl ho6;have hr6:=(hb6.block q (Array.getElem?_eq_some_iff.1 hr5).1).trans (hr5:w5.drew.heap[q]?=_);have hm6:=hm5.below' (w':=w6) ⟨hb6.os,hb6.tape,hb6.output,hb6.size,hb6.block⟩;have t6:=cells51 hr6;have hH6:w6.cell? ⟨q,0,none⟩=some (.int .u8 s.life)∧w6.cell? ⟨q,1,none⟩=some (.int .u32 s.pc)∧w6.cell? ⟨q,2,none⟩=some (.int .u32 s.sp)∧w6.cell? ⟨q,3,none⟩=some (.slice va n vc)∧w6.cell? ⟨q,5,none⟩=some (.int .u32 s.value)∧w6.cell? ⟨q,6,none⟩=some (.int .u8 s.fault):=⟨t6.1,t6.2.1,t6.2.2.1,t6.2.2.2.1,t6.2.2.2.2.2⟩;have hf6:Fr w5.drew w6 (fun k=>k=b) (fun k=>k=b):=Fr.of hb6 _;have hqb:q≠b:=fun e=>by have:=HQ.out;omega
 refine hK.out _ _ hH6 (fun _=>?_);clear hK K
 try simp only[Act.put,aT,aZ,aS]
 refine tk 19 hH6 ?_;refine tk 20 hH6 ?_;refine rd 21 ⟨none,.store 49 (.tmp 55) (.tmp 42),_,_,_,none⟩ fun K hK=>?_;rw[if_pos (by rfl)];refine outs_wp (R:=fun v W'=>v=undef∧W'=w6.setCell ⟨b,66,none⟩ (.int .u8 s.life)) (outs_store_at 49 (.tmp 55) (.tmp 42) rfl b 66 _ rfl rfl _ hm6.cells.c66 (hm6.cells.fz 66) tinfo48 rfl ⟨rfl,rfl⟩) ?_;rintro _ _⟨rfl,rfl⟩;have m0:=hm6.setLife s.life;have f0:Fr w6 (w6.setCell ⟨b,66,none⟩ (.int .u8 s.life)) (fun k=>k=b) (fun k=>k=b):=Fr.setCell (F:=fun k=>k=b) _ (a:=⟨b,66,none⟩) rfl _;have r0:=f0.row hr6 hqb;obtain⟨x0,hx0⟩:∃X,X=w6.setCell ⟨b,66,none⟩ (.int .u8 s.life):=⟨_,rfl⟩;rw[←hx0]at m0 f0 r0⊢;clear hx0;have t0':=cells51 r0;have hS0:x0.cell? ⟨q,0,none⟩=some (.int .u8 s.life)∧x0.cell? ⟨q,1,none⟩=some (.int .u32 s.pc)∧x0.cell? ⟨q,2,none⟩=some (.int .u32 s.sp)∧x0.cell? ⟨q,3,none⟩=some (.slice va n vc)∧x0.cell? ⟨q,5,none⟩=some (.int .u32 s.value)∧x0.cell? ⟨q,6,none⟩=some (.int .u8 s.fault):=⟨t0'.1,t0'.2.1,t0'.2.2.1,t0'.2.2.2.1,t0'.2.2.2.2.2⟩;refine hK.out _ _ hS0 (fun _=>?_);clear hK K
 try simp only[Act.put,aT,aZ,aS]
 refine tk 22 hS0 ?_;refine tk 23 hS0 ?_;refine rd 24 ⟨none,.store 25 (.tmp 57) (.tmp 44),_,_,_,none⟩ fun K hK=>?_;rw[if_pos (by rfl)];refine outs_wp (R:=fun v W'=>v=undef∧W'=x0.setCell ⟨b,67,none⟩ (.int .u32 s.pc)) (outs_store_at 25 (.tmp 57) (.tmp 44) rfl b 67 _ rfl rfl _ m0.cells.c67 (m0.cells.fz 67) tinfo25 rfl ⟨rfl,rfl⟩) ?_;rintro _ _⟨rfl,rfl⟩;have m1:=m0.setPc s.pc;have f1:Fr x0 (x0.setCell ⟨b,67,none⟩ (.int .u32 s.pc)) (fun k=>k=b) (fun k=>k=b):=Fr.setCell (F:=fun k=>k=b) _ (a:=⟨b,67,none⟩) rfl _;have r1:=f1.row r0 hqb;obtain⟨x1,hx1⟩:∃X,X=x0.setCell ⟨b,67,none⟩ (.int .u32 s.pc):=⟨_,rfl⟩;rw[←hx1]at m1 f1 r1⊢;clear hx1;have t1':=cells51 r1;have hS1:x1.cell? ⟨q,0,none⟩=some (.int .u8 s.life)∧x1.cell? ⟨q,1,none⟩=some (.int .u32 s.pc)∧x1.cell? ⟨q,2,none⟩=some (.int .u32 s.sp)∧x1.cell? ⟨q,3,none⟩=some (.slice va n vc)∧x1.cell? ⟨q,5,none⟩=some (.int .u32 s.value)∧x1.cell? ⟨q,6,none⟩=some (.int .u8 s.fault):=⟨t1'.1,t1'.2.1,t1'.2.2.1,t1'.2.2.2.1,t1'.2.2.2.2.2⟩;refine hK.out _ _ hS1 (fun _=>?_);clear hK K
 try simp only[Act.put,aT,aZ,aS]
 refine tk 25 hS1 ?_;refine tk 26 hS1 ?_;refine rd 27 ⟨none,.store 25 (.tmp 59) (.tmp 46),_,_,_,none⟩ fun K hK=>?_;rw[if_pos (by rfl)];refine outs_wp (R:=fun v W'=>v=undef∧W'=x1.setCell ⟨b,68,none⟩ (.int .u32 s.sp)) (outs_store_at 25 (.tmp 59) (.tmp 46) rfl b 68 _ rfl rfl _ m1.cells.c68 (m1.cells.fz 68) tinfo25 rfl ⟨rfl,rfl⟩) ?_;rintro _ _⟨rfl,rfl⟩;have m2:=m1.setSp s.sp;have f2:Fr x1 (x1.setCell ⟨b,68,none⟩ (.int .u32 s.sp)) (fun k=>k=b) (fun k=>k=b):=Fr.setCell (F:=fun k=>k=b) _ (a:=⟨b,68,none⟩) rfl _;have r2:=f2.row r1 hqb;obtain⟨x2,hx2⟩:∃X,X=x1.setCell ⟨b,68,none⟩ (.int .u32 s.sp):=⟨_,rfl⟩;rw[←hx2]at m2 f2 r2⊢;clear hx2;have t2':=cells51 r2;have hS2:x2.cell? ⟨q,0,none⟩=some (.int .u8 s.life)∧x2.cell? ⟨q,1,none⟩=some (.int .u32 s.pc)∧x2.cell? ⟨q,2,none⟩=some (.int .u32 s.sp)∧x2.cell? ⟨q,3,none⟩=some (.slice va n vc)∧x2.cell? ⟨q,5,none⟩=some (.int .u32 s.value)∧x2.cell? ⟨q,6,none⟩=some (.int .u8 s.fault):=⟨t2'.1,t2'.2.1,t2'.2.2.1,t2'.2.2.2.1,t2'.2.2.2.2.2⟩;refine hK.out _ _ hS2 (fun _=>?_);clear hK K
 try simp only[Act.put,aT,aZ,aS]
 refine tk 28 hS2 ?_;refine tk 29 hS2 ?_;refine rd 30 ⟨none,.store 23 (.tmp 61) (.tmp 49),_,_,_,none⟩ fun K hK=>?_;rw[if_pos (by rfl)];refine outs_wp (R:=fun v W'=>v=undef∧W'=x2.setCell ⟨b,69,none⟩ (.slice a1 n c1)) (outs_store_at 23 (.tmp 61) (.tmp 49) rfl b 69 _ rfl rfl _ m2.cells.c69 (m2.cells.fz 69) tinfo23 rfl ⟨rfl,rfl⟩) ?_;rintro _ _⟨rfl,rfl⟩;have m3:=m2.setOps (.slice a1 n c1);have f3:Fr x2 (x2.setCell ⟨b,69,none⟩ (.slice a1 n c1)) (fun k=>k=b) (fun k=>k=b):=Fr.setCell (F:=fun k=>k=b) _ (a:=⟨b,69,none⟩) rfl _;have r3:=f3.row r2 hqb;obtain⟨x3,hx3⟩:∃X,X=x2.setCell ⟨b,69,none⟩ (.slice a1 n c1):=⟨_,rfl⟩;rw[←hx3]at m3 f3 r3⊢;clear hx3;have t3':=cells51 r3;have hS3:x3.cell? ⟨q,0,none⟩=some (.int .u8 s.life)∧x3.cell? ⟨q,1,none⟩=some (.int .u32 s.pc)∧x3.cell? ⟨q,2,none⟩=some (.int .u32 s.sp)∧x3.cell? ⟨q,3,none⟩=some (.slice va n vc)∧x3.cell? ⟨q,5,none⟩=some (.int .u32 s.value)∧x3.cell? ⟨q,6,none⟩=some (.int .u8 s.fault):=⟨t3'.1,t3'.2.1,t3'.2.2.1,t3'.2.2.2.1,t3'.2.2.2.2.2⟩;refine hK.out _ _ hS3 (fun _=>?_);clear hK K
 try simp only[Act.put,aT,aZ,aS]
 refine tk 31 hS3 ?_;refine tk 32 hS3 ?_;refine rd 33 ⟨none,.store 25 (.tmp 63) (.tmp 51),_,_,_,none⟩ fun K hK=>?_;rw[if_pos (by rfl)];refine outs_wp (R:=fun v W'=>v=undef∧W'=x3.setCell ⟨b,70,none⟩ (.int .u32 s.value)) (outs_store_at 25 (.tmp 63) (.tmp 51) rfl b 70 _ rfl rfl _ m3.cells70.1 (m3.cells.fz 70) tinfo25 rfl ⟨rfl,rfl⟩) ?_;rintro _ _⟨rfl,rfl⟩;have m4:=m3.setValue s.value;have f4:Fr x3 (x3.setCell ⟨b,70,none⟩ (.int .u32 s.value)) (fun k=>k=b) (fun k=>k=b):=Fr.setCell (F:=fun k=>k=b) _ (a:=⟨b,70,none⟩) rfl _;have r4:=f4.row r3 hqb;obtain⟨x4,hx4⟩:∃X,X=x3.setCell ⟨b,70,none⟩ (.int .u32 s.value):=⟨_,rfl⟩;rw[←hx4]at m4 f4 r4⊢;clear hx4;have t4':=cells51 r4;have hS4:x4.cell? ⟨q,0,none⟩=some (.int .u8 s.life)∧x4.cell? ⟨q,1,none⟩=some (.int .u32 s.pc)∧x4.cell? ⟨q,2,none⟩=some (.int .u32 s.sp)∧x4.cell? ⟨q,3,none⟩=some (.slice va n vc)∧x4.cell? ⟨q,5,none⟩=some (.int .u32 s.value)∧x4.cell? ⟨q,6,none⟩=some (.int .u8 s.fault):=⟨t4'.1,t4'.2.1,t4'.2.2.1,t4'.2.2.2.1,t4'.2.2.2.2.2⟩;refine hK.out _ _ hS4 (fun _=>?_);clear hK K
 try simp only[Act.put,aT,aZ,aS]
 refine tk 34 hS4 ?_;refine tk 35 hS4 ?_;refine rd 36 ⟨none,.store 39 (.tmp 65) (.tmp 53),_,_,_,none⟩ fun K hK=>?_;rw[if_pos (by rfl)];refine outs_wp (R:=fun v W'=>v=undef∧W'=x4.setCell ⟨b,71,none⟩ (.int .u8 s.fault)) (outs_store_at 39 (.tmp 65) (.tmp 53) rfl b 71 _ rfl rfl _ m4.cells70.2 (m4.cells.fz 71) tinfo49 rfl ⟨rfl,rfl⟩) ?_;rintro _ _⟨rfl,rfl⟩;have m5:=m4.setFault s.fault;have f5:Fr x4 (x4.setCell ⟨b,71,none⟩ (.int .u8 s.fault)) (fun k=>k=b) (fun k=>k=b):=Fr.setCell (F:=fun k=>k=b) _ (a:=⟨b,71,none⟩) rfl _;have r5:=f5.row r4 hqb;obtain⟨x5,hx5⟩:∃X,X=x4.setCell ⟨b,71,none⟩ (.int .u8 s.fault):=⟨_,rfl⟩;rw[←hx5]at m5 f5 r5⊢;clear hx5;have t5':=cells51 r5;have hS5:x5.cell? ⟨q,0,none⟩=some (.int .u8 s.life)∧x5.cell? ⟨q,1,none⟩=some (.int .u32 s.pc)∧x5.cell? ⟨q,2,none⟩=some (.int .u32 s.sp)∧x5.cell? ⟨q,3,none⟩=some (.slice va n vc)∧x5.cell? ⟨q,5,none⟩=some (.int .u32 s.value)∧x5.cell? ⟨q,6,none⟩=some (.int .u8 s.fault):=⟨t5'.1,t5'.2.1,t5'.2.2.1,t5'.2.2.2.1,t5'.2.2.2.2.2⟩;refine hK.out _ _ hS5 (fun _=>?_);clear hK K
 try simp only[Act.put,aT,aZ,aS]
 refine wpAnyH_done (by kernel_rfl) ?_ _;have hfz:=(((((((hf5.drew.trans hf6).trans f0).trans f1).trans f2).trans f3).trans f4).trans f5);have HM:=Lib.hid m5;have HFZ:=Lib.hid hfz;have HO:=Lib.hid ho6;have HZ:Hid (b<w.heap.size∧w.heap.size≤w5.heap.size):=Lib.hid (by have:=hfw5.size;simp only[World.size_drew]at this;omega);have HF6:=Lib.hid (((((f0.trans f1).trans f2).trans f3).trans f4).trans f5);clear hHeld hH5 hH6 hS0 hS1 hS2 hS3 hS4 hS5 t5 t6 t0' t1' t2' t3' t4' t5' hf5 hf6 hm5 hm6 hr5 hr6 hb6 ho6 m0 m1 m2 m3 m4 m5 f0 f1 f2 f3 f4 f5 r0 r1 r2 r3 r4 r5 hqb;go_wp2_with fail;rw[HPsi.out];have hz4:=HF4.out.size;refine⟨rfl,p,g,c,_,Nat.le_trans HB2.out.size HP3.out.1,Nat.le_trans HB2.out.size HP3.out.2,HM.out,?_,HE4.out.fr HFZ.out (fun k hk e=>?_),HF4.out.trans HFZ.out⟩
 ·have h0:=own_fr HO.out HF6.out (fun g hg e=>by have h1:=(HO.out.lt g hg).1;simp only[World.size_drew]at h1;have:=HZ.out;omega)
  rw[←HNN.out];exact own_from (own_base h0) (fun g hg=>by have h1:=(HO.out.lt g hg).1;simp only[World.size_drew]at h1;have:=HZ.out;omega)
 ·rcases hk with rfl|rfl|hk
  ·exact HPQ.out.2.2.1 e
  ·exact HPQ.out.2.2.2 e
  ·cases hk
end
def putW (d:List Nat) (sp:Nat) (ws:List Nat):Nat→List Nat
 | 0=>d
 | k+1=>storeN (putW d sp ws k) (sp+4*k) (ws.getD k 0) 4
theorem getD_mem' {α:Type} {l:List α} {k:Nat} (h:k<l.length) (d:α):l.getD k d∈l:=by
 rw[List.getD_eq_getElem?_getD,List.getElem?_eq_getElem h];exact List.getElem_mem h
section
variable {w:World} {b:Nat} {K:MacK} {s:St} {vo:Value} {R:MacR} {M:MemK} {vt:Value} {logs:Bool} {tou:List (Nat×Bool)} {evs:List (Ev×Value)} {lg:List (Nat×Bool)}
theorem start_fill {qW q3:Nat} (x:MachX w b K s vo R M vt logs tou evs lg) (hsp:s.sp≤65536) {ws:List Nat} {vw:Value} (hw:w.ownsRow 0 25 1 vw ws.length (encN .u32 ws)) (hwo:∀g,vw.ownBlock=some g→¬allF b vo R M vt g) (hl:ws.length≤16) (h32:∀x∈ws,x<4294967296)
 (hQ:w.heap[qW]?=some (.cells #[vw] 23 (0,0))) (h3:w.heap[q3]?=some (.cells #[.pointer (some ⟨b,0,none⟩)] 35 (0,0))) (nQ:¬allF b vo R M vt qW) (n3:¬allF b vo R M vt q3) :
 Calls Tryz.prog 47 #[.pointer (some ⟨qW,0,none⟩),.pointer (some ⟨q3,0,none⟩)] w fun e w'=>e=.returned (.tuple #[])∧∃vt' tou',MachX w' b K {s with data:=putW s.data s.sp ws 16} vo R M vt' logs tou' evs lg∧Fr w w' (allF b vo R M vt) (allF b vo R M vt'):=by
 have hmx:Tryz.prog.follows .mixedOrders=true:=by kernel_rfl
 obtain⟨aw,cw,hvw,hln,hcap,hcm,hnn,hcs⟩:=own_reads hw;obtain⟨nw,hnw⟩:∃nw,nw=ws.length:=⟨_,rfl⟩;rw[←hnw]at hvw hcs;have hl16:nw≤16:=by omega
 have HCs:=Lib.hid hcs;have HW:=Lib.hid hw;have HVW:=Lib.hid hvw;have HWO:=Lib.hid hwo;have HX:=Lib.hid x;have HQ:=Lib.hid hQ;have H3:=Lib.hid h3;have HN:=Lib.hid (And.intro nQ n3);have H32:=Lib.hid h32;have HNW:=Lib.hid hnw;obtain⟨Ψ,hΨ⟩:∃Ψ:World→Prop,Ψ=fun w'=>∃vt' tou',MachX w' b K {s with data:=putW s.data s.sp ws 16} vo R M vt' logs tou' evs lg∧Fr w w' (allF b vo R M vt) (allF b vo R M vt'):=⟨_,rfl⟩;have HPsi:=Lib.hid hΨ;have hgoal:(fun (e:Ending) w'=>e=.returned (.tuple #[])∧∃vt' tou',MachX w' b K {s with data:=putW s.data s.sp ws 16} vo R M vt' logs tou' evs lg∧Fr w w' (allF b vo R M vt) (allF b vo R M vt'))=(fun e w'=>e=.returned (.tuple #[])∧Ψ w'):=by rw[hΨ]
 rw[hgoal];clear hgoal hΨ hcs hw hvw hwo x hQ h3 nQ n3 h32 hnw hln hcap hcm hnn hl;go_enter Tryz.func47,Tryz.ntmps47;go_wp2_with fail
 go_loopw[4] (fun i wr=>∃(k:Nat) (vt':Value) (tou':List (Nat×Bool)),k≤16∧i=.int .u32 k∧MachX wr b K {s with data:=putW s.data s.sp ws k} vo R M vt' logs tou' evs lg∧Fr w wr (allF b vo R M vt) (allF b vo R M vt')) (fun i _=>16 - (intOf i).toNat)
 case atStart=>exact⟨0,vt,tou,Nat.zero_le _,rfl,HX.out,Fr.refl _ _⟩
 case round=>
  obtain⟨k,vt',tou',hk,rfl,hx,hf⟩:=hrel;by_cases hk16:k<16
  ·have rQ:=hf.row HQ.out HN.out.1
   have r3:=hf.row H3.out HN.out.2;rw[HVW.out]at rQ;have cQ:=cell_of_row wr qW 0 _ _ _ rQ;have c3:=cell_of_row wr q3 0 _ _ _ r3;have k65:=hx.m.c65;have k68:=hx.m.o.m.cells.c68;simp only[macV]at k68;obtain⟨v,hv⟩:∃v,v=ws.getD k 0:=⟨_,rfl⟩
   have hv32:v<4294967296:=by
    rw[hv];by_cases h:k<ws.length
    ·exact H32.out _ (getD_mem' h _)
    ·rw[List.getD_eq_getElem?_getD,List.getElem?_eq_none (by omega)];decide
   obtain⟨a4,ha4⟩:∃a4:Nat,a4=4*k:=⟨_,rfl⟩;obtain⟨ad,had⟩:∃ad:Nat,ad=s.sp+4*k:=⟨_,rfl⟩;have wm:IntKind.u32.wrap (4*(k:Int))=(a4:Int):=by rw[IntKind.wrap_u32];omega
   have wa:IntKind.u32.wrap ((s.sp:Int)+(a4:Int))=(ad:Int):=by rw[IntKind.wrap_u32];omega
   have wk:IntKind.u32.wrap ((k:Int)+1)=(k:Int)+1:=by rw[IntKind.wrap_u32];omega
   have wi:IntKind.i64.wrap (k:Int)=(k:Int):=IntWalk.i64_in _ (by omega);have HS:=Lib.hid (store4_mem (hx.m.mem.below (Below.refl _ _).drew) (a:=ad) (v:=v) (by omega) hv32);have HX':=Lib.hid hx;have HF:=Lib.hid hf;have HV:=Lib.hid hv;have HAd:=Lib.hid had;have hk16':(k:Int)<16:=by omega
   have hk0:(0:Int)≤(k:Int):=by omega
   have hcell:k<nw→∃gw off,aw=some ⟨gw,off,none⟩∧wr.cell? ⟨gw,off+k,none⟩=some (.int .u32 v):=fun h=>by
    obtain⟨gw,off,e,hlt,hc⟩:=HCs.out (by omega);refine⟨gw,off,e,?_⟩;have h1:=own_fr HW.out hf HWO.out;obtain⟨a2,c2,e2,-,-,-,-,hc2⟩:=own_reads h1;rw[HVW.out]at e2;cases e2;obtain⟨g3,o3,e3,-,hc3⟩:=hc2 (by omega);rw[e]at e3;cases e3;have hle:(encN IntKind.u32 ws).length=ws.length:=(by unfold encN;simp);rw[hc3 k (by rw[hle];have:=HNW.out;omega),hv];unfold encN;rw[List.getElem?_map,List.getD_eq_getElem?_getD,List.getElem?_eq_getElem (by have:=HNW.out;omega)];rfl
   clear hx hf rQ r3 hv had ha4 hv32;by_cases hkn:k<nw
   ·obtain⟨gw,off,rfl,cw0⟩:=hcell hkn
    have hkn':(k:Int)<(nw:Int):=(by omega);clear hcell;go_wp2_with fail;refine wp_region_still_tail 12 hmx (by kernel_rfl) ?_;simp only[List.take_succ_cons,List.take_zero,List.drop_succ_cons,List.drop_zero]
    repeat still_step
    refine wpStill_nil ?_;change wpList _ _ _ _ _ wr.drew;go_wp2_with fail;refine HS.out.mono ?_;rintro e w2⟨rfl,vt2,m2,f2⟩;have hf2:Fr wr w2 (memF M.p M.g vt') (memF M.p M.g vt2):=((Fr.refl wr _).drew).trans f2;have hX2:=HX'.out.act (HX'.out.m.liftM m2 hf2) (frM hf2 b vo);have HX2:=Lib.hid hX2;have HF2:=Lib.hid (HF.out.trans (frA (frM hf2 b vo) R));clear m2 f2 hf2 hX2;go_wp2_with fail
    go_roundw
    case rel=>exact⟨k+1,vt2,_,by omega,by go_num,by rw[show putW s.data s.sp ws (k+1)=storeN (putW s.data s.sp ws k) ad v 4 from by rw[HAd.out,HV.out];rfl];exact HX2.out,HF2.out⟩
    case measure=>simp[intOf];omega
   ·have hkn':¬(k:Int)<(nw:Int):=by omega
    have hv0:v=0:=(by rw[HV.out,List.getD_eq_getElem?_getD,List.getElem?_eq_none (by have:=HNW.out;omega)];rfl);subst hv0;clear hcell;go_wp2_with fail;refine wp_region_still_tail 12 hmx (by kernel_rfl) ?_;simp only[List.take_succ_cons,List.take_zero,List.drop_succ_cons,List.drop_zero]
    repeat still_step
    refine wpStill_nil ?_;change wpList _ _ _ _ _ wr.drew;go_wp2_with fail;refine HS.out.mono ?_;rintro e w2⟨rfl,vt2,m2,f2⟩;have hf2:Fr wr w2 (memF M.p M.g vt') (memF M.p M.g vt2):=((Fr.refl wr _).drew).trans f2;have hX2:=HX'.out.act (HX'.out.m.liftM m2 hf2) (frM hf2 b vo);have HX2:=Lib.hid hX2;have HF2:=Lib.hid (HF.out.trans (frA (frM hf2 b vo) R));clear m2 f2 hf2 hX2;go_wp2_with fail
    go_roundw
    case rel=>exact⟨k+1,vt2,_,by omega,by go_num,by rw[show putW s.data s.sp ws (k+1)=storeN (putW s.data s.sp ws k) ad 0 4 from by rw[HAd.out];show storeN _ _ (ws.getD k 0) 4=_;rw[←HV.out]];exact HX2.out,HF2.out⟩
    case measure=>simp[intOf];omega
  ·have hk2:k=16:=by omega
   subst hk2;have HE:=Lib.hid (And.intro hx hf);clear hx hf;go_wp2_with fail
   go_end0
   rw[HPsi.out];exact⟨rfl,vt',tou',HE.out.1,HE.out.2⟩
end
def startM (m:Mo) (s:St) (at_:Nat) (args:List Nat):St:={life:=1,pc:=at_,sp:=m.top,ops:=[],data:=putW s.data m.top (4294967295::args) 16,value:=0,fault:=0}
theorem putW_length (d:List Nat) (sp:Nat) (ws:List Nat):∀k,(putW d sp ws k).length=d.length
 | 0=>rfl
 | k+1=>(storeN_length _ _ _ _).trans (putW_length d sp ws k)
theorem mo_need64 (m:Img) (i:Nat):(moOf m).need i≤64:=by
 unfold Mo.need
 split
 ·exact((flowN_bd m.code m.js).2 _).2
 ·decide
theorem fits_begin {mo:Mo} (hm:mo.Ok) {d:List Nat} (hd:d.length=2 ^ mo.k) {at_:Nat} (hb:mo.begins at_=true) (hn:mo.need at_≤64):mo.fits ⟨1,at_,mo.top,[],d,0,0⟩=true:=by
 obtain⟨hd0,-⟩:=hm.begin_ hb;obtain⟨z1,z2,z3,z4,z5,z6⟩:=hm.sizes;refine(fits_iff rfl).2 ⟨hd,?_,?_,Nat.le_refl _,rfl,rfl,?_⟩
 ·show mo.top%4=0
  unfold Mo.top;omega
 ·show 2 ^ mo.k - mo.im.stack≤mo.top
  unfold Mo.top;omega
 ·exact room_iff.2 ⟨by show 0≤mo.depth at_;omega,by show mo.depth at_≤((0:Nat):Int);omega,by show((0:Nat):Int) - mo.depth at_+mo.need at_≤64;omega⟩
theorem startM_fits {m:Img} (hk:TakeOk m) {s:St} (hd:s.data.length=2 ^ (moOf m).k) {at_:Nat} (hb:(moOf m).begins at_=true) (args:List Nat):(moOf m).fits (startM (moOf m) s at_ args)=true:=by
 have hl:=putW_length s.data (moOf m).top (4294967295::args) 16;rw[hd]at hl;unfold startM;generalize putW s.data (moOf m).top (4294967295::args) 16=d at*;exact fits_begin (moOk hk) hl hb (mo_need64 m at_)
theorem callFunc121 (args:Array Value) (W:World):(callFunc 47 args).run Tryz.prog W=.ok (.enter 47 args) W:=by simp[go_sem]
section
variable {w0 w:World} {b:Nat} {K:MacK} {s:St} {vo:Value} {R:MacR} {M:MemK} {vt:Value} {lg:List (Nat×Bool)} {gr:List (Nat×Int)} {mb:Nat} {m:Img}
theorem MachX.reset {w':World} {s':St} {vo':Value} {logs:Bool} {tou:List (Nat×Bool)} (x:MachX w b K s vo R M vt logs tou [] lg) (hm:MacB w' b K (macV s' vo' R)) (ho:w'.ownsRow 0 25 1 vo' s'.ops.length (encN .u32 s'.ops)) (hd:s'.data=s.data) (hf:Fr w w' (fun k=>k=b) (fun k=>k=b)):MachX w' b K s' vo' R M vt logs tou [] lg:=by
 have hb:∀k,memF M.p M.g vt k→k≠b:=fun k hk e=>ops_mem_apart x.m.o x.m.mem k hk (.inl e);refine⟨⟨⟨hm,ho⟩,by rw[hd];exact x.m.mem.fr hf hb,x.m.km⟩,own_fr x.ev hf (fun g hg e=>x.ev_apart g hg (.inl (.inl e))),fun y hy=>(by cases hy),fun y hy=>(by cases hy),own_fr x.lr hf (fun g hg e=>x.lr_apart g hg (.inl (.inl e))),x.ll,x.lv⟩
def StartPost (w0:World) (b:Nat) (K:MacK) (s:St) (vo:Value) (R:MacR) (M:MemK) (vt:Value) (lg:List (Nat×Bool)) (gr:List (Nat×Int)) (mb:Nat) (m:Img) (at_:Nat) (args:List Nat) (w:World) (e:Ending) (w':World):Prop:=
 ((moOf m).begins at_=false∧e=.returned (.int .i64 6)∧Below w.heap.size w w')∨((moOf m).begins at_=true∧15<args.length∧e=.returned (.int .i64 7)∧Below w.heap.size w w')∨
 ((moOf m).begins at_=true∧args.length≤15∧e=.returned (.int .i64 0)∧Rdy w0 w' b K (startM (moOf m) s at_ args) (.slice none 0 0) R M (.slice none 0 0) lg gr mb m∧Fr w w' (allF b vo R M vt) (allF b (.slice none 0 0) R M (.slice none 0 0)))
theorem mstart_any (H:Rdy w0 w b K s vo R M vt lg gr mb m) {at_:Nat} (ha:at_<4294967296) {args:List Nat} {v:Value} (hv:Words w v args) (hvo:Out (allF b vo R M vt) v) :
 Calls Tryz.prog 17 #[.pointer (some ⟨b,0,none⟩),.int .u32 at_,v] w (StartPost w0 b K s vo R M vt lg gr mb m at_ args w):=by
 have hmx:Tryz.prog.follows .mixedOrders=true:=by kernel_rfl
 have hmf:∀(fn:Fn) (first cap:Array Value) (w:World),(Instr.makeFunc fn first cap).run Tryz.prog w=.ok (.func fn first cap) w:=fun _ _ _ _=>rfl;have hbs:=run_buildSlice23;obtain⟨i0,hi,hz0,hz1,hz2⟩:=info_parts info32;obtain⟨q3,hq3⟩:∃q,q=w.heap.size:=⟨_,rfl⟩;obtain⟨W1,hW1⟩:∃W1,W1=w.alloc (.cells #[.pointer (some ⟨b,0,none⟩)] 35):=⟨_,rfl⟩;have hb1:Below w.heap.size w W1:=by rw[hW1];exact Bel.new _ _
 have h31:W1.heap[q3]?=some (.cells #[.pointer (some ⟨b,0,none⟩)] 35 (0,0)):=by rw[hW1,hq3];exact heap_alloc_new _ _
 have HMade:=Lib.hid (mmade_any (H.x.below hb1).m.o.m H.st.md);have HBg:=Lib.hid (fun W (hW:Below w.heap.size w W)=>((H.home.mat H.st.mod).below hW).begins at_ ha);have HMd:=Lib.hid H.st.md;obtain⟨a,cap,hvv,hln,hcap,hcm,hnn,hcs⟩:=id hv.1;obtain⟨n,hn⟩:∃n,n=args.length:=⟨_,rfl⟩;rw[←hn]at hvv;subst hvv;have HH:=Lib.hid H;have HV:=Lib.hid hv;have HVO:=Lib.hid hvo;have HN:=Lib.hid hn;have HB1:=Lib.hid hb1;have H31:=Lib.hid h31;have HQ3:=Lib.hid hq3;have k3:=cell_of_row W1 q3 0 _ _ _ h31;have k0:=(H.x.below hb1).m.o.m.c0;rw[H.st.md]at k0;obtain⟨bg,hbg⟩:∃bg,bg=(moOf m).begins at_:=⟨_,rfl⟩;rw[←hbg]at HBg;have HBG:=Lib.hid hbg;have htop:=H.st.top;have HTop:=Lib.hid htop;obtain⟨Ψ,hΨ⟩:∃Ψ,Ψ=StartPost w0 b K s vo R M vt lg gr mb m at_ args w:=⟨_,rfl⟩;rw[←hΨ];have HPsi:=Lib.hid hΨ;have h3b:q3≠b:=fun e=>by have:=H.x.m.lt;omega
 have hmax:cap≤9223372036854775807:=by unfold maxLen at hcm;omega
 have HCM:=Lib.hid hcm;clear H hb1 h31 hv hvo hn hq3 hbg htop hΨ hln hnn hcs hcm;go_enter Tryz.func17,Tryz.ntmps17;go_wp2_with fail;rw[←hW1,←HQ3.out];clear hW1;refine HMade.out.mono ?_;rintro e w1⟨rfl,rfl⟩;go_wp2_with fail;refine(HBg.out w1 HB1.out).mono ?_;rintro e w2⟨rfl,hb2⟩;have h32:=(hb2.block _ (Array.getElem?_eq_some_iff.1 H31.out).1).trans H31.out;have hB2:=Bel.tr HB1.out hb2;have HB2:=Lib.hid hB2;have H32:=Lib.hid h32;have k3:=cell_of_row w2 q3 0 _ _ _ h32;clear hb2 hB2 h32 k0;cases bg with
 | false=>
  go_wp2_with fail;rw[HPsi.out];exact .inl ⟨HBG.out.symm,rfl,HB2.out⟩
 | true=>
  by_cases hl:15<n
  ·have hl':(15:Int)<(n:Int):=by omega
   go_wp2_with fail;rw[HPsi.out];exact .inr (.inl ⟨HBG.out.symm,by rw[←HN.out];exact hl,rfl,HB2.out⟩)
  ·have hl':¬(15:Int)<(n:Int):=by omega
   go_wp2_with fail;obtain⟨KT,hKT⟩:∃KT,KT=K.top:=⟨_,rfl⟩;have HKT0:=Lib.hid hKT;clear hKT;have x2:=HH.out.x.below HB2.out.drew;have m_0:=x2.m.o.m;have hH0:w2.drew.cell? ⟨q3,0,none⟩=some (.pointer (some ⟨b,0,none⟩))∧w2.drew.cell? ⟨b,64,none⟩=some (.int .u32 KT):=⟨k3,(by rw[HKT0.out];exact m_0.cells.c64)⟩;refine wp_region_held_drew (S:=fun W=>W.cell? ⟨q3,0,none⟩=some (.pointer (some ⟨b,0,none⟩))∧W.cell? ⟨b,64,none⟩=some (.int .u32 KT)) hmx hH0 (fun hHeld=>?_);refine tk 0 hHeld ?_;refine tk 1 hHeld ?_;refine tk 2 hHeld ?_;refine tk 3 hHeld ?_;refine tk 4 hHeld ?_;refine tk 5 hHeld ?_;refine tk 6 hHeld ?_;refine tk 7 hHeld ?_;refine tk 8 hHeld ?_;refine tk 9 hHeld ?_;refine tk 10 hHeld ?_;refine tk 11 hHeld ?_;refine tk 12 hHeld ?_;refine rd 13 ⟨none,.store 49 (.tmp 36) (.const (.int .u8 1)),_,_,_,none⟩ fun K hK=>?_;rw[if_pos (by rfl)];refine outs_wp (R:=fun v W'=>v=undef∧W'=w2.drew.setCell ⟨b,66,none⟩ (.int .u8 (1:Nat))) (outs_store_at 49 (.tmp 36) (.const (.int .u8 1)) rfl b 66 _ rfl rfl _ m_0.cells.c66 (m_0.cells.fz 66) tinfo48 rfl ⟨rfl,rfl⟩) ?_;rintro _ _⟨rfl,rfl⟩;have m0:=m_0.setLife 1;have f0:Fr w2.drew (w2.drew.setCell ⟨b,66,none⟩ (.int .u8 (1:Nat))) (fun k=>k=b) (fun k=>k=b):=Fr.setCell (F:=fun k=>k=b) _ (a:=⟨b,66,none⟩) rfl _;have r0:=f0.row (H32.out:w2.drew.heap[q3]?=_) h3b;obtain⟨x0_,hx0_⟩:∃X,X=w2.drew.setCell ⟨b,66,none⟩ (.int .u8 (1:Nat)):=⟨_,rfl⟩;rw[←hx0_]at m0 f0 r0⊢;clear hx0_;have hS0:x0_.cell? ⟨q3,0,none⟩=some (.pointer (some ⟨b,0,none⟩))∧x0_.cell? ⟨b,64,none⟩=some (.int .u32 KT):=⟨cell_of_row x0_ q3 0 _ _ _ r0,(by rw[HKT0.out];exact m0.cells.c64)⟩;refine hK.out _ _ hS0 (fun _=>?_);clear hK K
   try simp only[Act.put,aT,aZ,aS]
   refine tk 14 hS0 ?_;refine tk 15 hS0 ?_;refine rd 16 ⟨none,.store 25 (.tmp 38) (.tmp 30),_,_,_,none⟩ fun K hK=>?_;rw[if_pos (by rfl)];refine outs_wp (R:=fun v W'=>v=undef∧W'=x0_.setCell ⟨b,67,none⟩ (.int .u32 at_)) (outs_store_at 25 (.tmp 38) (.tmp 30) rfl b 67 _ rfl rfl _ m0.cells.c67 (m0.cells.fz 67) tinfo25 rfl ⟨rfl,rfl⟩) ?_;rintro _ _⟨rfl,rfl⟩;have m1:=m0.setPc at_;have f1:Fr x0_ (x0_.setCell ⟨b,67,none⟩ (.int .u32 at_)) (fun k=>k=b) (fun k=>k=b):=Fr.setCell (F:=fun k=>k=b) _ (a:=⟨b,67,none⟩) rfl _;have r1:=f1.row r0 h3b;obtain⟨x1_,hx1_⟩:∃X,X=x0_.setCell ⟨b,67,none⟩ (.int .u32 at_):=⟨_,rfl⟩;rw[←hx1_]at m1 f1 r1⊢;clear hx1_;have hS1:x1_.cell? ⟨q3,0,none⟩=some (.pointer (some ⟨b,0,none⟩))∧x1_.cell? ⟨b,64,none⟩=some (.int .u32 KT):=⟨cell_of_row x1_ q3 0 _ _ _ r1,(by rw[HKT0.out];exact m1.cells.c64)⟩;refine hK.out _ _ hS1 (fun _=>?_);clear hK K
   try simp only[Act.put,aT,aZ,aS]
   refine tk 17 hS1 ?_;refine tk 18 hS1 ?_;refine rd 19 ⟨none,.store 25 (.tmp 40) (.tmp 34),_,_,_,none⟩ fun K hK=>?_;rw[if_pos (by rfl)];refine outs_wp (R:=fun v W'=>v=undef∧W'=x1_.setCell ⟨b,68,none⟩ (.int .u32 KT)) (outs_store_at 25 (.tmp 40) (.tmp 34) rfl b 68 _ rfl rfl _ m1.cells.c68 (m1.cells.fz 68) tinfo25 rfl ⟨rfl,rfl⟩) ?_;rintro _ _⟨rfl,rfl⟩;have m2:=m1.setSp KT;have f2:Fr x1_ (x1_.setCell ⟨b,68,none⟩ (.int .u32 KT)) (fun k=>k=b) (fun k=>k=b):=Fr.setCell (F:=fun k=>k=b) _ (a:=⟨b,68,none⟩) rfl _;have r2:=f2.row r1 h3b;obtain⟨x2_,hx2_⟩:∃X,X=x1_.setCell ⟨b,68,none⟩ (.int .u32 KT):=⟨_,rfl⟩;rw[←hx2_]at m2 f2 r2⊢;clear hx2_;have hS2:x2_.cell? ⟨q3,0,none⟩=some (.pointer (some ⟨b,0,none⟩))∧x2_.cell? ⟨b,64,none⟩=some (.int .u32 KT):=⟨cell_of_row x2_ q3 0 _ _ _ r2,(by rw[HKT0.out];exact m2.cells.c64)⟩;refine hK.out _ _ hS2 (fun _=>?_);clear hK K
   try simp only[Act.put,aT,aZ,aS]
   refine tk 20 hS2 ?_;refine tk 21 hS2 ?_;refine rd 22 ⟨none,.store 23 (.tmp 42) (.const (.slice none 0 0)),_,_,_,none⟩ fun K hK=>?_;rw[if_pos (by rfl)];refine outs_wp (R:=fun v W'=>v=undef∧W'=x2_.setCell ⟨b,69,none⟩ (.slice none 0 0)) (outs_store_at 23 (.tmp 42) (.const (.slice none 0 0)) rfl b 69 _ rfl rfl _ m2.cells.c69 (m2.cells.fz 69) tinfo23 rfl ⟨rfl,rfl⟩) ?_;rintro _ _⟨rfl,rfl⟩;have m3:=m2.setOps (.slice none 0 0);have f3:Fr x2_ (x2_.setCell ⟨b,69,none⟩ (.slice none 0 0)) (fun k=>k=b) (fun k=>k=b):=Fr.setCell (F:=fun k=>k=b) _ (a:=⟨b,69,none⟩) rfl _;have r3:=f3.row r2 h3b;obtain⟨x3_,hx3_⟩:∃X,X=x2_.setCell ⟨b,69,none⟩ (.slice none 0 0):=⟨_,rfl⟩;rw[←hx3_]at m3 f3 r3⊢;clear hx3_;have hS3:x3_.cell? ⟨q3,0,none⟩=some (.pointer (some ⟨b,0,none⟩))∧x3_.cell? ⟨b,64,none⟩=some (.int .u32 KT):=⟨cell_of_row x3_ q3 0 _ _ _ r3,(by rw[HKT0.out];exact m3.cells.c64)⟩;refine hK.out _ _ hS3 (fun _=>?_);clear hK K
   try simp only[Act.put,aT,aZ,aS]
   refine tk 23 hS3 ?_;refine tk 24 hS3 ?_;refine rd 25 ⟨none,.store 25 (.tmp 44) (.const (.int .u32 0)),_,_,_,none⟩ fun K hK=>?_;rw[if_pos (by rfl)];refine outs_wp (R:=fun v W'=>v=undef∧W'=x3_.setCell ⟨b,70,none⟩ (.int .u32 (0:Nat))) (outs_store_at 25 (.tmp 44) (.const (.int .u32 0)) rfl b 70 _ rfl rfl _ m3.cells70.1 (m3.cells.fz 70) tinfo25 rfl ⟨rfl,rfl⟩) ?_;rintro _ _⟨rfl,rfl⟩;have m4:=m3.setValue 0;have f4:Fr x3_ (x3_.setCell ⟨b,70,none⟩ (.int .u32 (0:Nat))) (fun k=>k=b) (fun k=>k=b):=Fr.setCell (F:=fun k=>k=b) _ (a:=⟨b,70,none⟩) rfl _;have r4:=f4.row r3 h3b;obtain⟨x4_,hx4_⟩:∃X,X=x3_.setCell ⟨b,70,none⟩ (.int .u32 (0:Nat)):=⟨_,rfl⟩;rw[←hx4_]at m4 f4 r4⊢;clear hx4_;have hS4:x4_.cell? ⟨q3,0,none⟩=some (.pointer (some ⟨b,0,none⟩))∧x4_.cell? ⟨b,64,none⟩=some (.int .u32 KT):=⟨cell_of_row x4_ q3 0 _ _ _ r4,(by rw[HKT0.out];exact m4.cells.c64)⟩;refine hK.out _ _ hS4 (fun _=>?_);clear hK K
   try simp only[Act.put,aT,aZ,aS]
   refine tk 26 hS4 ?_;refine tk 27 hS4 ?_;refine rd 28 ⟨none,.store 39 (.tmp 46) (.const (.int .u8 0)),_,_,_,none⟩ fun K hK=>?_;rw[if_pos (by rfl)];refine outs_wp (R:=fun v W'=>v=undef∧W'=x4_.setCell ⟨b,71,none⟩ (.int .u8 (0:Nat))) (outs_store_at 39 (.tmp 46) (.const (.int .u8 0)) rfl b 71 _ rfl rfl _ m4.cells70.2 (m4.cells.fz 71) tinfo49 rfl ⟨rfl,rfl⟩) ?_;rintro _ _⟨rfl,rfl⟩;have m5:=m4.setFault 0;have f5:Fr x4_ (x4_.setCell ⟨b,71,none⟩ (.int .u8 (0:Nat))) (fun k=>k=b) (fun k=>k=b):=Fr.setCell (F:=fun k=>k=b) _ (a:=⟨b,71,none⟩) rfl _;have r5:=f5.row r4 h3b;obtain⟨x5_,hx5_⟩:∃X,X=x4_.setCell ⟨b,71,none⟩ (.int .u8 (0:Nat)):=⟨_,rfl⟩;rw[←hx5_]at m5 f5 r5⊢;clear hx5_;have hS5:x5_.cell? ⟨q3,0,none⟩=some (.pointer (some ⟨b,0,none⟩))∧x5_.cell? ⟨b,64,none⟩=some (.int .u32 KT):=⟨cell_of_row x5_ q3 0 _ _ _ r5,(by rw[HKT0.out];exact m5.cells.c64)⟩;refine hK.out _ _ hS5 (fun _=>?_);clear hK K
   try simp only[Act.put,aT,aZ,aS]
   refine wpAnyH_done (by kernel_rfl) ?_ _;have hKT2:KT=(moOf m).top:=HKT0.out.trans HTop.out;have hfx:Fr w2.drew x5_ (fun k=>k=b) (fun k=>k=b):=((((f0.trans f1).trans f2).trans f3).trans f4).trans f5;have xr:=x2.reset (s':=⟨1,at_,KT,[],s.data,0,0⟩) (vo':=.slice none 0 0) m5 (World.ownsRow_nil _ _ _ _) rfl hfx
   have hfw:Fr w x5_ (allF b vo R M vt) (allF b (.slice none 0 0) R M vt):=((Fr.of HB2.out (allF b vo R M vt)).drew.trans (hfx.mono (G:=allF b vo R M vt) (G1:=allF b (.slice none 0 0) R M vt) (fun i e=>.inl (.inl (.inl e))) (fun i e=>.inl (by
    rcases e with(e|e)|e
    ·rcases e with e|e
     ·exact .inl (.inl (.inl e))
     ·cases e
    ·exact .inl (.inr e)
    ·exact .inr e))))
   have hwr:=(HV.out.1.fr hfw HVO.out).1;have HXR:=Lib.hid xr;have HFW:=Lib.hid hfw;have HWR:=Lib.hid (hwr.below (Bel.new _ (.cells #[.int .u32 (4294967295:Nat)] 25)));have HR5:=Lib.hid r5;have HKT:=Lib.hid hKT2
   have HN3:Hid (¬allF b (.slice none 0 0) R M vt q3):=Lib.hid (fun e=>by
    have h1:=hfw.foot q3 e;have h2:=HQ3.out;have h3:=HH.out.x.flt;rcases h1 with h1|h1
    ·have:=h3 q3 h1;omega
    ·exact h3b (by
      rcases e with((e|e)|e)|e|e
      ·exact e
      ·cases e
      ·have:=HH.out.x.m.mem.flt q3 e;omega
      ·have:=(HH.out.x.ev.lt q3 e).2;omega
      ·have:=(HH.out.x.lr.lt q3 e).2;omega))
   have HO1:=Lib.hid (own_base (own_new1 x5_ 4294967295 (4294967295:Nat) rfl))
   have Hone:=Lib.hid (fun x (hx:x∈encN .u32 args)=>show x.oneCell'=true from by
    obtain⟨y,-,rfl⟩:=List.mem_map.1 hx
    rfl)
   have c35:=cell_of_row x5_ q3 0 _ _ _ r5;have l35:=(Array.getElem?_eq_some_iff.1 r5).1;have HL5:=Lib.hid hfx.size;clear hHeld hH0 hS0 hS1 hS2 hS3 hS4 hS5 m_0 m0 m1 m2 m3 m4 m5 f0 f1 f2 f3 f4 f5 r0 r1 r2 r3 r4 r5 x2 xr hfx hfw hwr hKT2 k3;rw[←HN.out]at HWR
   go_wp2_with((with_reducible refine wpList_append_reads (o:=⟨some 49,.call {callee:=.builtin .append,args:=#[.tmp 47,.tmp 48],argTypes:=#[23,23]},_,_,_,none⟩) rfl _ _ 23 rfl 25 i0 (.int .u32 0) 1 4 Tryz.underlying23 hi hz0 hz1 hz2 ?_ ?_ _ 1 (encN .u32 [4294967295]) ?_ HO1.out _ n (encN .u32 args) ?_ HWR.out Hone.out ?_ ?_ ?_);rfl;decide;rfl;rfl;(unfold maxLen;omega);omega;intro v1 w6 o1 g1;obtain⟨a1,c1,hv1,-⟩:=own_sl o1;subst hv1;have hB60:Below x5_.heap.size x5_ w6:=(Bel.new x5_ (.cells #[.int .u32 (4294967295:Nat)] 25)).grown g1.1 (by simp) (fun g e=>by cases e;exact Nat.le_refl _);have hu7:(w6.alloc (.cells #[.slice a1 (1+n) c1] 23)).cell? ⟨q3,0,none⟩=some (.pointer (some ⟨b,0,none⟩)):=((Bel.new w6 _).cell (p:=⟨q3,0,none⟩) (Nat.lt_of_lt_of_le l35 hB60.size)).trans (cell_of_row w6 q3 0 _ _ _ ((hB60.block _ l35).trans HR5.out)))
   have hxX:=HXR.out.below (Bel.new x5_ (.cells #[.int .u32 (4294967295:Nat)] 25));have hB6:Below x5_.heap.size x5_ w6:=(Bel.new x5_ (.cells #[.int .u32 (4294967295:Nat)] 25)).grown g1.1 (by simp) (fun g e=>by cases e;exact Nat.le_refl _)
   have ho6:w6.ownsRow x5_.heap.size 25 1 (.slice a1 (1+n) c1) (1+n) (encN .u32 [4294967295]++encN .u32 args):=own_from (own_base o1) (fun g e=>by
    rcases g1.2 g e with h'|h'
    ·cases h';exact Nat.le_refl _
    ·simp at h';omega)
   have hxs:=HXR.out;have hbd:=hB6;obtain⟨W7,hW7⟩:∃W7,W7=w6.alloc (.cells #[.slice a1 (1+n) c1] 23):=⟨_,rfl⟩;have hb7:Below w6.heap.size w6 W7:=by rw[hW7];exact Bel.new _ _
   have h7:W7.heap[w6.heap.size]?=some (.cells #[.slice a1 (1+n) c1] 23 (0,0)):=by rw[hW7];exact heap_alloc_new _ _
   have hB7:=Bel.tr hB6 hb7;have hx7:=HXR.out.below hB7;have h37:=(hB7.block _ l35).trans HR5.out;have ho7:=own_base (own_below ho6 hb7);have hfl:=HXR.out.flt;have hnw:∀g,x5_.heap.size≤g→¬allF b (.slice none 0 0) R M vt g:=fun g hg e=>by have:=hfl g e;omega
   have ewl:1+n=(4294967295::args).length:=by rw[List.length_cons,←HN.out];omega
   have ho7':W7.ownsRow 0 25 1 (.slice a1 (1+n) c1) (4294967295::args).length (encN .u32 (4294967295::args)):=by rw[←ewl];exact ho7
   have hsp:(⟨1,at_,KT,[],s.data,0,0⟩:St).sp≤65536:=by
    show KT≤65536
    rw[HKT.out];have:=(moOk HH.out.st.mod.k).sizes;unfold Mo.top;omega
   have HC:=Lib.hid (start_fill (ws:=4294967295::args) hx7 hsp ho7' (fun g e=>hnw g (ho6.lt g e).1) (by rw[←ewl];omega) (fun x hx=>by
    rcases List.mem_cons.1 hx with rfl|hx
    ·decide
    ·obtain⟨i,hi,rfl⟩:=List.getElem_of_mem hx
     have:=HV.out.2 i;rw[List.getD_eq_getElem?_getD,List.getElem?_eq_getElem hi]at this
     exact this) h7 h37 (hnw _ hB6.size) HN3.out)
   have HU:=Lib.hid (unseen_any (b:=b) (K:=K) (s:={(⟨1,at_,KT,[],s.data,0,0⟩:St)with data:=putW s.data KT (4294967295::args) 16}) (vo:=.slice none 0 0) (R:=R) (M:=M) (logs:=R.on) (evs:=[]) (lg:=lg) (Ψ:=fun w'=>∃vt',Fr W7 w' (allF b (.slice none 0 0) R M vt) (allF b (.slice none 0 0) R M vt')) (callFunc121 #[.pointer (some ⟨w6.heap.size,0,none⟩),.pointer (some ⟨q3,0,none⟩)]) (HC.out.mono (by
    rintro e w'⟨rfl,vt',tou',hX,hF⟩
    exact⟨rfl,⟨vt',tou',hX⟩,⟨vt',hF⟩⟩)))
   have c37:=cell_of_row W7 q3 0 _ _ _ h37;have l3w6:q3<w6.heap.size:=Nat.lt_of_lt_of_le l35 hB6.size;have c36:=cell_of_row w6 q3 0 _ _ _ ((hB6.block _ l35).trans HR5.out);have HFB:=Lib.hid (HFW.out.trans (Fr.of hB7 _));have HB7:=Lib.hid hB7;clear o1 g1 hxX hB6 ho6 hxs hbd hb7 h7 hB7 hx7 h37 ho7 hfl hnw ewl ho7' hsp c35 l35;rw[←hW7];clear hW7;refine HU.out.mono ?_;rintro e w8⟨rfl,w9,⟨vt',hF9⟩,hX8,hF8⟩;go_wp2_with fail;rw[HPsi.out];refine .inr (.inr ⟨HBG.out.symm,by rw[←HN.out];omega,rfl,?_,?_⟩)
   all_goals
    have hF1:Fr W7 w8 (allF b (.slice none 0 0) R M vt) (allF b (.slice none 0 0) R M (.slice none 0 0)):=by
     have h1:=hF9.trans (hF8.mono (G:=allF b (.slice none 0 0) R M vt') (G1:=allF b (.slice none 0 0) R M vt') (fun i e=>.inl (.inr (.inl e))) (fun i e=>.inl e))
     exact⟨h1.os,h1.tape,h1.output,h1.size,h1.block,fun k e=>.inl (by
      rcases e with(e|e|e|e)|e
      ·exact .inl (.inl e)
      ·exact .inl (.inr (.inl e))
      ·exact .inl (.inr (.inr (.inl e)))
      ·cases e
      ·exact .inr e)⟩
   ·have hs1:startM (moOf m) s at_ args={(⟨1,at_,KT,[],s.data,0,0⟩:St)with data:=putW s.data KT (4294967295::args) 16}:=by rw[HKT.out];rfl
    have hfit:=startM_fits HH.out.st.mod.k (s:=s) (by have:=HH.out.fit;unfold Mo.fits at this;rw[Bool.and_eq_true,decide_eq_true_eq]at this;exact this.1) HBG.out.symm args;refine⟨HH.out.st,by rw[hs1];exact hX8,HH.out.home.fr (HFB.out.trans hF1),⟨fun x hx=>(by cases hx),?_,by show(0:Nat)<4294967296;decide⟩,hfit,HH.out.rn,HH.out.en⟩
    show(moOf m).top<4294967296
    have:=(moOk HH.out.st.mod.k).sizes;unfold Mo.top;omega
   ·exact HFB.out.trans hF1
end
theorem FindOk.not_bad {code:List (Nat×Nat)} {js ats:List Nat} {i c:Nat} (h:FindOk code js ats) (hb:FindBad code js ats i c):False:=by
 cases hb with
 | enc h2=>exact absurd h.he h2
 | first _ h2=>exact h2 h.h3
 | fault _ _ _ hi _ hf=>exact hf (h.hall _ hi)
 | jump _ _ _ _ hi _ hb=>have:=h.hg _ hi;rw[hb]at this;cases this
 | name _ _ _ _ _ hi _ hb=>have:=h.hn _ hi;rw[hb]at this;cases this
theorem TakeOk.not_bad {m:Img} {a c:Nat} (h:TakeOk m) (hb:TakeBad m a c):False:=by
 rcases hb with⟨h1,_⟩|⟨_,h2⟩|⟨_,_,h3,_⟩
 ·exact h1 h.k
 ·exact h.f.not_bad h2
 ·exact h3 h.r
theorem TakeBad.pos {m:Img} {a c:Nat} (h:TakeBad m a c):c≠0:=by
 rcases h with⟨h1,h2,h3⟩|⟨h1,h2⟩|⟨h1,h2,h3,h4,h5⟩
 ·rw[h3];exact h1
 ·exact findBad_pos h2
 ·rw[h5];exact h3
def findOkB (code:List (Nat×Nat)):Bool:=decide ((encRes code).2.2=0)&&(decide (0<code.length)&&(decide ((code.getD 0 (0,0)).1=3)&&(List.range code.length).all fun i=>decide (faultAt code i=0)))
theorem findOk_of {code:List (Nat×Nat)} (h:findOkB code=true):FindOk code [] []:=by
 unfold findOkB at h;simp only[Bool.and_eq_true,decide_eq_true_eq,List.all_eq_true,List.mem_range]at h;exact⟨h.1,⟨h.2.1,h.2.2.1⟩,h.2.2.2,fun j hj=>absurd hj (Nat.not_lt_zero j),fun j hj=>absurd hj (Nat.not_lt_zero j)⟩
def imK:Img:=⟨[(3,8),(9,12),(31,0),(12,0),(8,4294967294),(5,0),(4,8)],[],[],0,128,[]⟩
theorem okK:TakeOk imK:=⟨by decide+kernel,findOk_of (by decide+kernel),by decide+kernel⟩
def stK:St:=startM (moOf imK) (moOf imK).fst 0 [5,6]
def goK:GoR:=goM (moOf imK) [(1,1)] 100 [⟨9,[]⟩] stK
theorem begK:(moOf imK).begins 0=true:=by decide+kernel
theorem goK_is:(resOf 1 goK).en=1∧(resOf 1 goK).value=9∧(resOf 1 goK).used=7∧(resOf 1 goK).ev.map (fun e=>e.args)=[[5]]:=by decide+kernel
def tabF (i:Nat):Nat:=if i=0 then 92 else actF i
def tabN (i:Nat):Nat:=if i=0 then 0 else if i≤12 then 70+i else if i≤28 then 0 else if i≤35 then 54+i else if isUnOp i then 90 else 0
def tabI (i:Nat):Value:=if tabN i=0 then .nilFunc else .func (.func (tabN i)) #[] #[]
def actT (k:Nat):Array Value:=Array.ofFn (n:=60) fun i=>if i.val<k then .func (.func (tabF i.val)) #[] #[]else tabI i.val
theorem tab_nil:∀k,k<60→tabN k=0→tabF k=if 13≤k∧k≤28 then 91 else 92:=by decide+kernel
theorem tab_fn:∀k,k<60→tabN k≠0→tabF k=tabN k:=by decide+kernel
theorem info243:(Tryz.prog.info? 82).map (·.size)=some 60:=by kernel_rfl
theorem actT_size (k:Nat):(actT k).size=60:=Array.size_ofFn
theorem actT_at {k i:Nat} (hi:i<60):(actT k)[i]?=some (if i<k then .func (.func (tabF i)) #[] #[]else tabI i):=by
 rw[Array.getElem?_eq_getElem (by rw[actT_size];exact hi)];unfold actT;rw[Array.getElem_ofFn]
theorem actT_put {k:Nat} (hk:k<60):(actT k).setIfInBounds k (.func (.func (tabF k)) #[] #[])=actT (k+1):=by
 apply Array.ext_getElem?;intro i;rw[Array.getElem?_setIfInBounds,actT_size];by_cases hi:i<60
 ·rw[actT_at hi,actT_at hi]
  by_cases e:k=i
  ·subst e
   rw[if_pos rfl,if_pos hk,if_pos (by omega)]
  ·rw[if_neg e]
   by_cases h:i<k
   ·rw[if_pos h,if_pos (by omega)]
   ·rw[if_neg h,if_neg (by omega)]
 ·rw[Array.getElem?_eq_none (by rw[actT_size];omega),Array.getElem?_eq_none (by rw[actT_size];omega)]
  by_cases e:k=i
  ·omega
  ·rw[if_neg e]
theorem actT_keep {k:Nat} (hk:k<60) (hn:tabN k≠0):actT (k+1)=actT k:=by
 apply Array.ext_getElem?;intro i;by_cases hi:i<60
 ·rw[actT_at hi,actT_at hi]
  by_cases e:i=k
  ·subst e
   rw[if_pos (by omega),if_neg (by omega)];unfold tabI;rw[if_neg hn,tab_fn i hi hn]
  ·by_cases h:i<k
   ·rw[if_pos h,if_pos (by omega)]
   ·rw[if_neg h,if_neg (by omega)]
 ·rw[Array.getElem?_eq_none (by rw[actT_size];omega),Array.getElem?_eq_none (by rw[actT_size];omega)]
def tabZ:Array Value:=Array.replicate 60 .nilFunc
theorem zero243 (w:World):(zeroValue 82).run Tryz.prog w=.ok (.agg tabZ) w:=by kernel_rfl
theorem run_b243 (w:World):(Instr.build 82 #[(1,.func (.func 71) #[] #[]),(2,.func (.func 72) #[] #[]),(3,.func (.func 73) #[] #[]),(4,.func (.func 74) #[] #[]),(5,.func (.func 75) #[] #[]),(6,.func (.func 76) #[] #[]),(7,.func (.func 77) #[] #[]),(8,.func (.func 78) #[] #[]),(9,.func (.func 79) #[] #[]),(10,.func (.func 80) #[] #[]),(11,.func (.func 81) #[] #[]),(12,.func (.func 82) #[] #[]),(29,.func (.func 83) #[] #[]),(30,.func (.func 84) #[] #[]),(31,.func (.func 85) #[] #[]),(32,.func (.func 86) #[] #[]),(33,.func (.func 87) #[] #[]),(34,.func (.func 88) #[] #[]),(35,.func (.func 89) #[] #[]),(36,.func (.func 90) #[] #[]),(37,.func (.func 90) #[] #[]),(38,.func (.func 90) #[] #[]),(49,.func (.func 90) #[] #[]),(53,.func (.func 90) #[] #[]),(58,.func (.func 90) #[] #[]),(59,.func (.func 90) #[] #[])]).run Tryz.prog w=.ok (.agg (actT 0)) w:=by kernel_rfl
section
variable {w:World}
theorem acts_any:Calls Tryz.prog 41 #[] w fun e w'=>e=.returned (.agg (actT 60))∧Below w.heap.size w w':=by
 have hz:=zero243;have hsz:tabZ.size=60:=by kernel_rfl
 have hbb:=run_b243;have hq0:∀w:World,(binOp .neq 81 .nilFunc .nilFunc).run Tryz.prog w=.ok (.bool false) w:=fun _=>rfl;have hq1:∀(f:Nat) (w:World),(binOp .neq 81 (.func (.func f) #[] #[]) .nilFunc).run Tryz.prog w=.ok (.bool true) w:=fun _ _=>rfl
 have HR1:=Lib.hid (show((w.alloc (.cells tabZ 82)).alloc (.cells tabZ 82)).heap[w.heap.size+1]?=some (.cells tabZ 82 (0,0))from by
  have:=heap_alloc_new (w.alloc (.cells tabZ 82)) (.cells tabZ 82)
  simpa using this)
 go_enter Tryz.func41,Tryz.ntmps41
 go_wp2_with((with_reducible refine wpList_store_row (o:=⟨none,.store 82 (.tmp 1) (.tmp 3),_,_,_,none⟩) rfl 82 _ _ rfl (w.heap.size+1) (actT 0) ?_ ?_ 82 tabZ HR1.out ?_ ?_ ?_ ?_);rfl;kernel_rfl;exact info243;kernel_rfl;kernel_rfl)
 generalize hv3:Value.agg ((((((((((((((((((((((((((tabZ.setIfInBounds 1 (Value.func (Fn.func 71) #[] #[])).setIfInBounds 2 (Value.func (Fn.func 72) #[] #[])).setIfInBounds 3 (Value.func (Fn.func 73) #[] #[])).setIfInBounds 4 (Value.func (Fn.func 74) #[] #[])).setIfInBounds 5 (Value.func (Fn.func 75) #[] #[])).setIfInBounds 6 (Value.func (Fn.func 76) #[] #[])).setIfInBounds 7 (Value.func (Fn.func 77) #[] #[])).setIfInBounds 8 (Value.func (Fn.func 78) #[] #[])).setIfInBounds 9 (Value.func (Fn.func 79) #[] #[])).setIfInBounds 10 (Value.func (Fn.func 80) #[] #[])).setIfInBounds 11 (Value.func (Fn.func 81) #[] #[])).setIfInBounds 12 (Value.func (Fn.func 82) #[] #[])).setIfInBounds 29 (Value.func (Fn.func 83) #[] #[])).setIfInBounds 30 (Value.func (Fn.func 84) #[] #[])).setIfInBounds 31 (Value.func (Fn.func 85) #[] #[])).setIfInBounds 32 (Value.func (Fn.func 86) #[] #[])).setIfInBounds 33 (Value.func (Fn.func 87) #[] #[])).setIfInBounds 34 (Value.func (Fn.func 88) #[] #[])).setIfInBounds 35 (Value.func (Fn.func 89) #[] #[])).setIfInBounds 36 (Value.func (Fn.func 90) #[] #[])).setIfInBounds 37 (Value.func (Fn.func 90) #[] #[])).setIfInBounds 38 (Value.func (Fn.func 90) #[] #[])).setIfInBounds 49 (Value.func (Fn.func 90) #[] #[])).setIfInBounds 53 (Value.func (Fn.func 90) #[] #[])).setIfInBounds 58 (Value.func (Fn.func 90) #[] #[])).setIfInBounds 59 (Value.func (Fn.func 90) #[] #[]))=v3;clear hv3
 go_loopw[4] (fun i wr=>∃k:Nat,k≤60∧i=.int .i64 k∧wr.heap[w.heap.size+1]?=some (.cells (actT k) 82 (0,0))∧wr.heap[w.heap.size]?=some (.cells tabZ 82 (0,0))∧Below w.heap.size w wr) (fun i _=>60 - (intOf i).toNat)
 case atStart=>
  refine⟨0,by omega,rfl,setRow_heap _ _ _ _ _ _ HR1.out,?_,below_setRow (Bel.al (Bel.new w _) _) _ (by omega) _⟩;rw[setRow_other _ _ _ _ (by omega),Below.heap_alloc _ _ _ (by simp)];exact heap_alloc_new _ _
 case round=>
  obtain⟨k,hk,rfl,h1,h0,hb⟩:=hrel;clear hz hbb HR1 hsz;have H0:=Lib.hid h0;have HB:=Lib.hid hb;by_cases hkn:k<60
  ·have hc:=(cell_of_row wr (w.heap.size+1) k _ _ _ h1).trans (actT_at hkn)
   rw[if_neg (Nat.lt_irrefl k)]at hc;have hz:=frozen_of_row wr (w.heap.size+1) k _ _ h1;have H1:=Lib.hid h1;have wk:IntKind.i64.wrap ((k:Int)+1)=(k:Int)+1:=IntWalk.i64_in _ (by omega);have wu:IntKind.u8.wrap (k:Int)=(k:Int):=IntWalk.u8_in _ (by omega);have e60:(k:Int)<60:=by omega
   have e0:(0:Int)≤(k:Int):=by omega
   clear h1 h0 hb;unfold tabI at hc;by_cases hn:tabN k=0
   ·rw[if_pos hn]at hc
    by_cases hr:13≤k∧k≤28
    ·have g1:(13:Int)≤(k:Int):=by omega
     have g2:(k:Int)≤28:=(by omega);go_wp2_with fail
     go_roundw
     case rel=>exact⟨k+1,by omega,by go_num,(by rw[←actT_put hkn,show tabF k=91 from by rw[tab_nil k hkn hn,if_pos hr]];exact heap_setCell_same wr (w.heap.size+1) k _ _ _ H1.out),(by rw[Below.heap_setCell _ _ _ _ (by show w.heap.size≠w.heap.size+1;omega)];exact H0.out),HB.out.setCell (by show w.heap.size≤w.heap.size+1;omega) _⟩
     case measure=>simp[intOf];omega
    ·by_cases g1:(13:Int)≤(k:Int)
     ·have g2:¬(k:Int)≤28:=by omega
      go_wp2_with fail
      go_roundw
      case rel=>exact⟨k+1,by omega,by go_num,(by rw[←actT_put hkn,show tabF k=92 from by rw[tab_nil k hkn hn,if_neg hr]];exact heap_setCell_same wr (w.heap.size+1) k _ _ _ H1.out),(by rw[Below.heap_setCell _ _ _ _ (by show w.heap.size≠w.heap.size+1;omega)];exact H0.out),HB.out.setCell (by show w.heap.size≤w.heap.size+1;omega) _⟩
      case measure=>simp[intOf];omega
     ·go_wp2_with fail
      go_roundw
      case rel=>exact⟨k+1,by omega,by go_num,(by rw[←actT_put hkn,show tabF k=92 from by rw[tab_nil k hkn hn,if_neg hr]];exact heap_setCell_same wr (w.heap.size+1) k _ _ _ H1.out),(by rw[Below.heap_setCell _ _ _ _ (by show w.heap.size≠w.heap.size+1;omega)];exact H0.out),HB.out.setCell (by show w.heap.size≤w.heap.size+1;omega) _⟩
      case measure=>simp[intOf];omega
   ·rw[if_neg hn]at hc
    go_wp2_with fail
    go_roundw
    case rel=>exact⟨k+1,by omega,by go_num,by rw[actT_keep hkn hn];exact H1.out,H0.out,HB.out⟩
    case measure=>simp[intOf];omega
  ·have hk60:k=60:=by omega
   subst hk60;have H1:=Lib.hid h1;clear h1 h0 hb
   go_wp2_with(first
    | ((with_reducible refine wpList_load_row (o:=⟨some 26,.load 82 (.tmp 1),_,_,_,none⟩) rfl 82 _ rfl (w.heap.size+1) ?_ 82 (actT 60) (0,0) _ H1.out Tryz.underlying82 ?_ ?_ ?_);rfl;rfl;exact(by rw[actT_size];exact info243))
    | ((with_reducible refine wpList_store_row (o:=⟨none,.store 82 (.tmp 0) (.tmp 26),_,_,_,none⟩) rfl 82 _ _ rfl w.heap.size (actT 60) ?_ ?_ 82 tabZ H0.out ?_ ?_ ?_ ?_);rfl;rfl;exact(by rw[actT_size];exact info243);kernel_rfl;kernel_rfl))
   refine bodyPost_ret (v:=.agg (actT 60)) (results_cell_rest Tryz.results41 _ _ w.heap.size 82 _ (0,0) _ rfl (setRow_heap _ _ _ _ _ _ H0.out) Tryz.underlying82 rfl (by rw[actT_size];exact info243)) rfl ?_;exact⟨rfl,below_setRow HB.out _ (Nat.le_refl _) _⟩
end
section
variable {w w':World} {F G:Nat→Prop} {B:Nat}
theorem own_lo {e sz n:Nat} {v:Value} {xs:List Value} (h:w.ownsRow B e sz v n xs) (hf:Fr w w' F G) (hF:∀k,F k→k<B):w'.ownsRow B e sz v n xs:=
 own_fr h hf (fun g e hg=>by have h1:=(h.lt g e).1;have h2:=hF g hg;omega)
theorem cell_lo {p:Addr} {v:Value} (h:w.cell? p=some v) (hp:B≤p.block) (hf:Fr w w' F G) (hF:∀k,F k→k<B):w'.cell? p=some v:=
 (hf.cell (World.block_lt_of_cell? _ _ h) (fun e=>by have:=hF _ e;omega)).trans h
theorem PAt.lo {b:Nat} {vp vo vt:Value} {ps:List (Nat×Nat×Nat)} {ofs:List Nat} {us:List Value} {ts:List (List Nat)} (h:PAt w B b vp vo vt ps ofs us ts) (hf:Fr w w' F G) (hF:∀k,F k→k<B):PAt w' B b vp vo vt ps ofs us ts:=
 ⟨cell_lo h.c0 h.hb hf hF,cell_lo h.c1 h.hb hf hF,cell_lo h.c2 h.hb hf hF,h.hb,own_lo h.op hf hF,own_lo h.oo hf hF,own_lo h.ot hf hF,h.ul,fun j u l hu hl=>own_lo (h.ou j u l hu hl) hf hF⟩
theorem ModAt.lo {mb:Nat} {m:Img} (h:ModAt w B mb m) (hf:Fr w w' F G) (hF:∀k,F k→k<B):ModAt w' B mb m:=by
 obtain⟨h0,tb,b,vm,uc,vd,uj,ud,un,hm,ht,⟨c0,c1,c2,c3,c4,c5,c6,c7,c8,c9,c10,c11⟩,hi,⟨B',hB,vp,vo,vt,us,hp⟩,hd,hv⟩:=h;have L:∀{j:Nat} {v:Value},w.cell? ⟨tb,j,none⟩=some v→w'.cell? ⟨tb,j,none⟩=some v:=fun c=>cell_lo c ht hf hF
 exact⟨h0,tb,b,vm,uc,vd,uj,ud,un,cell_lo hm h0 hf hF,ht,⟨L c0,L c1,L c2,L c3,L c4,L c5,L c6,L c7,L c8,L c9,L c10,L c11⟩,
  ⟨own_lo hi.c hf hF,own_lo hi.j hf hF,own_lo hi.d hf hF,own_lo hi.n hf hF⟩,⟨B',hB,vp,vo,vt,us,hp.lo hf (fun k e=>by have:=hF k e;omega)⟩,own_lo hd hf hF,own_lo hv hf hF⟩
theorem ModAt.down {mb:Nat} {m:Img} {B':Nat} (h:ModAt w B' mb m) (hb:B≤B'):ModAt w B mb m:=by
 obtain⟨h0,tb,b,vm,uc,vd,uj,ud,un,hm,ht,hc,hi,⟨B2,hB,hf⟩,hd,hv⟩:=h;exact⟨Nat.le_trans hb h0,tb,b,vm,uc,vd,uj,ud,un,hm,Nat.le_trans hb ht,hc,⟨own_downT hi.c hb,own_downT hi.j hb,own_downT hi.d hb,own_downT hi.n hb⟩,⟨B2,Nat.le_trans hb hB,hf⟩,own_downT hd hb,own_downT hv hb⟩
def GateIn (B:Nat) (w:World) (v:Value) (gr:List (Nat×Int)):Prop:=
 ∃gb mp,v=.pointer (some ⟨gb,0,none⟩)∧B≤gb∧B≤mp∧w.cell? ⟨gb,0,none⟩=some (.map (some mp))∧w.ownsMap Tryz.prog 25 (plainElem (H:=Unit) Tryz.prog 3) mp gr.length (gateD gr)∧GrOk gr
theorem GateIn.at_ {v:Value} {gr:List (Nat×Int)} (h:GateIn B w v gr):GateAt w v gr:=by
 obtain⟨gb,mp,h1,-,-,h2,h3,h4⟩:=h;exact⟨gb,mp,h1,h2,h3,h4⟩
theorem GateIn.lo {v:Value} {gr:List (Nat×Int)} (h:GateIn B w v gr) (hf:Fr w w' F G) (hF:∀k,F k→k<B):GateIn B w' v gr:=by
 obtain⟨gb,mp,h1,hb,hp,h2,⟨es,clock,h3,h4⟩,h5⟩:=h;exact⟨gb,mp,h1,hb,hp,cell_lo h2 hb hf hF,⟨es,clock,hf.row h3 (fun e=>by have:=hF _ e;omega),h4⟩,h5⟩
theorem GateIn.down {v:Value} {gr:List (Nat×Int)} {B':Nat} (h:GateIn B' w v gr) (hb:B≤B'):GateIn B w v gr:=by
 obtain⟨gb,mp,h1,h2,h3,h4⟩:=h;exact⟨gb,mp,h1,Nat.le_trans hb h2,Nat.le_trans hb h3,h4⟩
theorem GateIn.below {v:Value} {gr:List (Nat×Int)} (h:GateIn B w v gr) (hb:Below w.heap.size w w'):GateIn B w' v gr:=h.lo (Fr.of hb (fun _=>False)) (fun _ e=>e.elim)
def StatN (B:Nat) (w0:World) (K:MacK) (mb:Nat) (m:Img) (gr:List (Nat×Int)):Prop:=
 GateIn B w0 K.gate gr∧w0.ownsRow B 106 2 K.code m.code.length (encI m.code)
theorem StatN.lo {w0 w1:World} {K:MacK} {mb:Nat} {m:Img} {gr:List (Nat×Int)} (h:StatN B w0 K mb m gr) (hf:Fr w0 w1 F G) (hF:∀k,F k→k<B):StatN B w1 K mb m gr:=⟨h.1.lo hf hF,own_lo h.2 hf hF⟩
theorem Stat.lo {w0 w1:World} {K:MacK} {mb:Nat} {m:Img} {gr:List (Nat×Int)} (h:Stat w0 K mb m gr) (hn:StatN B w0 K mb m gr) (hf:Fr w0 w1 F G) (hF:∀k,F k→k<B) (hm:MAt w1 mb m):Stat w1 K mb m gr:=
 ⟨hm,h.md,(hn.lo hf hF).1.at_,own_base (hn.lo hf hF).2,h.acts,h.floor,h.top⟩
end
open Go.RowKit Go.Maps
def encG:List (Nat×Int)→List Value
 | []=>[]
 | g::l=>.int .u32 g.1:: .int .i64 g.2::encG l
theorem encG_len (l:List (Nat×Int)):(encG l).length=l.length*2:=by
 induction l with
 | nil=>rfl
 | cons g l ih=>simp only[encG,List.length_cons,ih];omega
theorem encG_at:∀(l:List (Nat×Int)) (k:Nat),k<l.length→(encG l)[k*2]?=some (.int .u32 (l.getD k (0,0)).1)∧(encG l)[k*2+1]?=some (.int .i64 (l.getD k (0,0)).2)
 | [],k,h=>absurd h (Nat.not_lt_zero k)
 | g::l,0,_=>⟨rfl,rfl⟩
 | g::l,k+1,h=>by
  have:=encG_at l k (by simpa using h);rw[show(k+1)*2=k*2+1+1 from by omega]
  simpa[encG]using this
def GrantsAt (w:World) (v:Value) (gr:List (Nat×Int)):Prop:=Reads w 2 v gr.length (encG gr)∧∀g∈gr,g.1<4294967296
theorem GrantsAt.below {w w':World} {v:Value} {gr:List (Nat×Int)} (h:GrantsAt w v gr) (hb:Below w.heap.size w w'):GrantsAt w' v gr:=⟨h.1.below hb,h.2⟩
theorem getD_mem {α:Type} {l:List α} {k:Nat} (h:k<l.length) (d:α):l.getD k d∈l:=by
 rw[List.getD_eq_getElem?_getD,List.getElem?_eq_getElem h];exact List.getElem_mem h
theorem granted_some {l:List (Nat×Int)} {x:Nat} (h:x∈l.map (·.1)):(grantedN l x).isSome=true:=by
 induction l with
 | nil=>cases h
 | cons g l ih=>
  rw[granted_cons];by_cases e:g.1=x
  ·rw[if_pos e];rfl
  ·rw[if_neg e]
   simp only[List.map_cons,List.mem_cons]at h;exact ih (h.resolve_left (fun e2=>e e2.symm))
theorem take_snocG (l:List (Nat×Int)) (k:Nat) (h:k<l.length):l.take (k+1)=l.take k++[l.getD k (0,0)]:=take_snoc l k h (0,0)
theorem grOk_twice {gr:List (Nat×Int)} {k:Nat} (hk:k<gr.length) (h:(grantedN (gr.take k) (gr.getD k (0,0)).1).isSome=true):¬GrOk gr:=fun o=>by
 have hm:(gr.getD k (0,0)).1∈(gr.take k).map (·.1):=by
  apply Classical.byContradiction;intro hn;rw[granted_none hn]at h;cases h
 have hd:((gr.take (k+1)).map (·.1)).Nodup:=o.nd.sublist ((List.take_sublist _ _).map _);rw[take_snocG gr k hk,List.map_append,List.nodup_append]at hd;exact hd.2.2 _ hm _ (by simp) rfl
theorem grOk_bad {gr:List (Nat×Int)} {k:Nat} (hk:k<gr.length) (h:¬(0≤(gr.getD k (0,0)).2∧(gr.getD k (0,0)).2≤15∧(gr.getD k (0,0)).1≤2147483647)):¬GrOk gr:=fun o=>h (o.b _ (getD_mem hk _))
theorem gr_next {gr:List (Nat×Int)} {k:Nat} (hk:k<gr.length) (hnd:((gr.take k).map (·.1)).Nodup) (h:(grantedN (gr.take k) (gr.getD k (0,0)).1).isSome=false):((gr.take (k+1)).map (·.1)).Nodup:=by
 rw[take_snocG gr k hk,List.map_append,List.nodup_append];refine⟨hnd,by simp,fun a ha c hc e=>?_⟩;simp at hc;have e2:c=(gr.getD k (0,0)).1:=by simpa using hc
 have h9:(grantedN (gr.take k) (gr.getD k (0,0)).1).isSome=true:=granted_some (by rw[←e2,←e];exact ha);rw[h]at h9;cases h9
theorem gr_nextb {gr:List (Nat×Int)} {k:Nat} (hk:k<gr.length) (hb:∀g∈gr.take k,0≤g.2∧g.2≤15∧g.1≤2147483647) (h:0≤(gr.getD k (0,0)).2∧(gr.getD k (0,0)).2≤15∧(gr.getD k (0,0)).1≤2147483647):∀g∈gr.take (k+1),0≤g.2∧g.2≤15∧g.1≤2147483647:=by
 rw[take_snocG gr k hk];intro g hg;rw[List.mem_append,List.mem_singleton]at hg;rcases hg with hg|rfl
 ·exact hb g hg
 ·exact h
def NewGate (gr:List (Nat×Int)) (w:World) (e:Ending) (w':World):Prop:=
 Below w.heap.size w w'∧((GrOk gr∧∃gb,e=.returned (.tuple #[.pointer (some ⟨gb,0,none⟩),.int .i64 0])∧GateIn w.heap.size w' (.pointer (some ⟨gb,0,none⟩)) gr)∨(¬GrOk gr∧e=.returned (.tuple #[.pointer none,.int .i64 160])))
theorem outs_mapUpdate {P:Program} {o:Oper} {ρ:Operand→Value} {W W':World} {R:Value→World→Prop} (t:TypeId) (m x v:Operand) (ho:o.op=.mapUpdate t m x v) {b:Nat} {key val:Value} (hm:ρ m=.map (some b)) (hx:ρ x=key) (hv:ρ v=val)
 (hrun:(Instr.mapUpdate t (.map (some b)) key val).run P W=.ok () W') (h:R undef W'):outs P o ρ W R:=by
 unfold outs;simp[execOp,ho,hm,hx,hv,hrun,Result.andThen];exact h
theorem wf_i64g {x:Int} (h:0≤x) (h2:x≤15):(Lit.int .i64 x).wf=true:=WalkArith.wf_i64 (by omega)
theorem run_b375 (mp:Nat) (w:World):(Instr.build 157 #[(0,.map (some mp))]).run Tryz.prog w=.ok (.agg #[.map (some mp)]) w:=by kernel_rfl
section
variable {w:World} {v:Value} {gr:List (Nat×Int)}
theorem newgate_any (h:GrantsAt w v gr):Calls Tryz.prog 39 #[v] w (NewGate gr w):=by
 have hmx:Tryz.prog.follows .mixedOrders=true:=by kernel_rfl
 have hmm:=@run_makeMap Tryz.prog;have hb375:=run_b375;have hH:=Lib.hid h;obtain⟨⟨a,cap,rfl,hl,hn,hm,ha,hp⟩,h32⟩:=h;obtain⟨n,hnn⟩:∃n,n=gr.length:=⟨_,rfl⟩;have HNN:=Lib.hid hnn;rw[←hnn]at hp hn⊢;have HP:=Lib.hid hp;have H32:=Lib.hid h32;clear hl ha hp h32 hnn;by_cases hc:64<n
 ·have hc2:(64:Int)<(n:Int):=by omega
  go_enter Tryz.func39,Tryz.ntmps39;go_wp2_with fail;go_ret2;exact⟨Below.refl _ _,.inr ⟨fun o=>by have:=o.n;have:=HNN.out;omega,rfl⟩⟩
 ·have hc2:¬(64:Int)<(n:Int):=by omega
  go_enter Tryz.func39,Tryz.ntmps39;go_wp2_with fail;obtain⟨mp,hmp⟩:∃q,q=w.heap.size:=⟨_,rfl⟩;obtain⟨gb,hgb⟩:∃q,q=w.heap.size+1:=⟨_,rfl⟩;obtain⟨W0,hW0⟩:∃W0,W0=(w.alloc (.map #[] 0)).alloc (.cells #[.map (some w.heap.size)] 157):=⟨_,rfl⟩;have hB0:Below w.heap.size w W0:=by rw[hW0];exact Bel.tr (Bel.new _ _) (Bel.new _ _)
  have hR0:W0.heap[gb]?=some (.cells #[.map (some mp)] 157 (0,0)):=by
   rw[hW0,hgb,hmp];have h2:=heap_alloc_new (w.alloc (.map #[] 0)) (.cells #[.map (some w.heap.size)] 157);rw[World.size_alloc]at h2;exact h2
  have hO0:W0.ownsMap Tryz.prog 25 (plainElem (H:=Unit) Tryz.prog 3) mp 0 (gateD (gr.take 0)):=by
   rw[hW0,hmp];exact(World.ownsMap_made _ _ _ _).alloc _
  rw[←hW0,←hgb,←hmp];have hgm:gb≠mp:=by omega
  have HG:=Lib.hid (And.intro hmp hgb);clear hW0 hgb hmp;have HS:=Lib.hid (And.intro hB0 (And.intro hR0 hO0));clear hB0 hR0 hO0
  go_loopw[17] (fun i wr=>∃k:Nat,k≤n∧i=.int .i64 k∧Below w.heap.size w wr∧wr.heap[gb]?=some (.cells #[.map (some mp)] 157 (0,0))∧wr.ownsMap Tryz.prog 25 (plainElem (H:=Unit) Tryz.prog 3) mp k (gateD (gr.take k))∧((gr.take k).map (·.1)).Nodup∧∀g∈gr.take k,0≤g.2∧g.2≤15∧g.1≤2147483647) (fun i _=>n - (intOf i).toNat)
  case atStart=>exact⟨0,Nat.zero_le _,rfl,HS.out.1,HS.out.2.1,HS.out.2.2,by simp,by simp⟩
  case round=>
   obtain⟨k,hk,rfl,hB,hR,hO,hnd,hb⟩:=hrel;clear HS;have hk64:k≤64:=by omega
   by_cases hkn:k<n
   ·obtain⟨b,off,rfl,hbl,hcs⟩:=HP.out (by omega)
    have hkg:k<gr.length:=(by have:=HNN.out;omega);obtain⟨e0,e1⟩:=encG_at gr k hkg;have hlen:=encG_len gr;have c0:=(hB.cell (p:=⟨b,off+k*2,none⟩) hbl).trans ((hcs (k*2) (by omega)).trans e0);have c1:=(hB.cell (p:=⟨b,off+k*2+1,none⟩) hbl).trans ((hcs (k*2+1) (by omega)).trans e1);obtain⟨x,hx⟩:∃x,x=(gr.getD k (0,0)).1:=⟨_,rfl⟩;obtain⟨y,hy⟩:∃y,y=(gr.getD k (0,0)).2:=⟨_,rfl⟩;rw[←hx]at c0;rw[←hy]at c1;have hx32:x<4294967296:=(by rw[hx];exact H32.out _ (getD_mem hkg _));have hkey:keyOf Tryz.prog 25 (.int .u32 x)=some (.int .u32 x):=keyOf_int_mk Tryz.underlying25 (WalkArith.wf_u32 (by omega));obtain⟨tw,htw⟩:∃tw,tw=(grantedN (gr.take k) x).isSome:=⟨_,rfl⟩;have hhas:Maps.has (gateD (gr.take k)) (.int .u32 x)=tw:=(by rw[htw];exact gateD_has hnd x);obtain⟨W2,hW2⟩:∃W2,W2=wr.alloc (.cells #[.int .u32 x,.int .i64 y] 73):=⟨_,rfl⟩;have hO2:W2.ownsMap Tryz.prog 25 (plainElem (H:=Unit) Tryz.prog 3) mp k (gateD (gr.take k)):=(by rw[hW2];exact hO.alloc _);have hbn:Below wr.heap.size wr W2:=(by rw[hW2];exact Bel.new _ _);have hR2:=(hbn.block _ (Array.getElem?_eq_some_iff.1 hR).1).trans hR;have hT2:W2.heap[wr.heap.size]?=some (.cells #[.int .u32 x,.int .i64 y] 73 (0,0)):=(by rw[hW2];exact heap_alloc_new _ _);obtain⟨v0,ps0,hrun,hv0⟩:=hO2.drew.look_ok law25 Tryz.underlying155 (gzero3 _) (plainElem_int Tryz.underlying3 (by decide)) hkey;obtain⟨c,rfl,-,-⟩:=plainElem_int_inv Tryz.underlying3 hv0;rw[hhas]at hrun;have HLR:Hid (mp<wr.heap.size):=Lib.hid (by have h1:=HG.out;have h2:=(Array.getElem?_eq_some_iff.1 hR).1;omega);have hq6:gb≠wr.heap.size:=fun e=>(by have:=(Array.getElem?_eq_some_iff.1 hR).1;omega);have hB2:=Bel.tr hB hbn
    have hH0:W2.drew.cell? ⟨gb,0,none⟩=some (.map (some mp))∧W2.drew.cell? ⟨wr.heap.size,0,none⟩=some (.int .u32 x)∧W2.drew.cell? ⟨wr.heap.size,1,none⟩=some (.int .i64 y)∧(Instr.lookup 155 (.map (some mp)) (.int .u32 x) true).run Tryz.prog W2.drew=.ok (.tuple #[.int .i64 c,.bool tw]) W2.drew:=
     ⟨cell_of_row W2 gb 0 _ _ _ hR2,cell_of_row W2 wr.heap.size 0 _ _ _ hT2,cell_of_row W2 wr.heap.size 1 _ _ _ hT2,hrun⟩
    have hH9:W2.drew.drew.cell? ⟨gb,0,none⟩=some (.map (some mp))∧W2.drew.drew.cell? ⟨wr.heap.size,0,none⟩=some (.int .u32 x)∧W2.drew.drew.cell? ⟨wr.heap.size,1,none⟩=some (.int .i64 y):=⟨cell_of_row W2 gb 0 _ _ _ hR2,cell_of_row W2 wr.heap.size 0 _ _ _ hT2,cell_of_row W2 wr.heap.size 1 _ _ _ hT2⟩;have cT0:=cell_of_row W2 wr.heap.size 0 _ _ _ hT2;have cT1:=cell_of_row W2 wr.heap.size 1 _ _ _ hT2;have lT:=(Array.getElem?_eq_some_iff.1 hT2).1;have HR2:=Lib.hid hR2;have HO2:=Lib.hid hO2;have HB2:=Lib.hid hB2;have HX:=Lib.hid (And.intro hx hy);have HTW:=Lib.hid htw;have HND:=Lib.hid hnd;have HBd:=Lib.hid hb;have HKG:=Lib.hid hkg;have hkl:(k:Int)<(n:Int):=(by omega);have hk0:(0:Int)≤(k:Int):=(by omega);have wk:IntKind.i64.wrap ((k:Int)+1)=(k:Int)+1:=IntWalk.i64_in _ (by omega);clear hB hR hO hnd hb hcs e0 e1 hlen hx hy htw hhas hO2 hbn hR2 hT2 hrun hv0 hB2 hkg hx32;go_wp2_with fail;rw[←hW2];clear hW2;refine wp_region_held_drew (S:=fun W=>W.cell? ⟨gb,0,none⟩=some (.map (some mp))∧W.cell? ⟨wr.heap.size,0,none⟩=some (.int .u32 x)∧W.cell? ⟨wr.heap.size,1,none⟩=some (.int .i64 y)∧(Instr.lookup 155 (.map (some mp)) (.int .u32 x) true).run Tryz.prog W=.ok (.tuple #[.int .i64 c,.bool tw]) W) hmx hH0 (fun hHeld=>?_);refine tk 0 hHeld ?_;refine tk 1 hHeld ?_;refine tk 2 hHeld ?_;refine tk 3 hHeld ?_;refine tk 4 hHeld ?_;refine tk 5 hHeld ?_;refine tk 6 hHeld ?_;refine tk 7 hHeld ?_;refine tk 8 hHeld ?_;refine tk 9 hHeld ?_;refine tk 10 hHeld ?_;refine tk 11 hHeld ?_;refine wpAnyH_done (by kernel_rfl) ?_ _;clear hHeld hH0;cases tw with
    | true=>
     go_wp2_with fail;go_ret2;exact⟨HB2.out.drew,.inr ⟨grOk_twice HKG.out (by rw[←HX.out.1];exact HTW.out.symm),rfl⟩⟩
    | false=>
     by_cases x1:2147483647<x
     ·have x1':(2147483647:Int)<(x:Int):=by omega
      go_wp2_with fail;go_ret2;exact⟨HB2.out.drew,.inr ⟨grOk_bad HKG.out (fun h=>by have:=h.2.2;rw[←HX.out.1]at this;omega),rfl⟩⟩
     ·have x1':¬(2147483647:Int)<(x:Int):=by omega
      by_cases x2:y<0
      ·go_wp2_with fail
       go_ret2;exact⟨HB2.out.drew,.inr ⟨grOk_bad HKG.out (fun h=>by have:=h.1;rw[←HX.out.2]at this;omega),rfl⟩⟩
      ·by_cases x3:15<y
       ·go_wp2_with fail
        go_ret2;exact⟨HB2.out.drew,.inr ⟨grOk_bad HKG.out (fun h=>by have:=h.2.1;rw[←HX.out.2]at this;omega),rfl⟩⟩
       ·obtain⟨W3,hrun3,hO3,hg3⟩:=HO2.out.drew.drew.update law25 Tryz.underlying155 (show k<maxLen by unfold maxLen;omega) hkey (plainElem_int (P:=Tryz.prog) (H:=Unit) Tryz.underlying3 (wf_i64g (x:=y) (by omega) (by omega)))
        have hR3:W3.heap[gb]?=some (.cells #[.map (some mp)] 157 (0,0)):=(hg3.block gb (Array.getElem?_eq_some_iff.1 HR2.out).1 (fun e=>hgm (Option.some.inj e))).trans HR2.out
        have hT3:∀j,W3.cell? ⟨wr.heap.size,j,none⟩=W2.cell? ⟨wr.heap.size,j,none⟩:=fun j=>by
         have:=hg3.block wr.heap.size lT (fun e=>by
          injection e with e;have h1:=HG.out;have h2:=(Array.getElem?_eq_some_iff.1 HR2.out).1;have h3:=HLR.out
          omega)
         unfold World.cell?;rw[this];rfl
        have hH10:W3.cell? ⟨gb,0,none⟩=some (.map (some mp))∧W3.cell? ⟨wr.heap.size,0,none⟩=some (.int .u32 x)∧W3.cell? ⟨wr.heap.size,1,none⟩=some (.int .i64 y):=⟨cell_of_row W3 gb 0 _ _ _ hR3,(hT3 0).trans cT0,(hT3 1).trans cT1⟩;go_wp2_with fail;refine wp_region_held_drew (S:=fun W=>W.cell? ⟨gb,0,none⟩=some (.map (some mp))∧W.cell? ⟨wr.heap.size,0,none⟩=some (.int .u32 x)∧W.cell? ⟨wr.heap.size,1,none⟩=some (.int .i64 y)) hmx hH9 (fun hHeld=>?_);refine tk 0 hHeld ?_;refine tk 1 hHeld ?_;refine tk 2 hHeld ?_;refine tk 3 hHeld ?_;refine tk 4 hHeld ?_;refine tk 5 hHeld ?_;refine tk 6 hHeld ?_;refine tk 7 hHeld ?_;refine rd 8 ⟨none,.mapUpdate 155 (.tmp 50) (.tmp 52) (.tmp 54),_,_,_,none⟩ fun K hK=>?_;rw[if_pos (by rfl)];refine outs_wp (R:=fun v W'=>v=undef∧W'=W3) (outs_mapUpdate 155 (.tmp 50) (.tmp 52) (.tmp 54) rfl (b:=mp) (key:=.int .u32 x) (val:=.int .i64 y) rfl rfl rfl hrun3 ⟨rfl,rfl⟩) ?_;rintro _ _⟨rfl,rfl⟩;refine hK.out _ _ hH10 (fun _=>?_);clear hK K
        try simp only[Act.put,aT,aZ,aS]
        refine wpAnyH_done (by kernel_rfl) ?_ _;have HO3:=Lib.hid hO3;have HG3:=Lib.hid hg3;have HR3:=Lib.hid hR3;clear hHeld hH9 hH10 hT3 hrun3 hO3 hg3 hR3 cT0 cT1 c0 c1;go_wp2_with fail
        go_roundw
        case rel=>
         have hkg:=HKG.out;refine⟨k+1,by omega,by go_num,?_,HR3.out,?_,gr_next hkg HND.out (by rw[←HX.out.1];exact HTW.out.symm),gr_nextb hkg HBd.out (by rw[←HX.out.1,←HX.out.2];omega)⟩
         ·exact⟨HG3.out.os.trans HB2.out.os,HG3.out.tape.trans HB2.out.tape,HG3.out.output.trans HB2.out.output,Nat.le_trans HB2.out.size HG3.out.size,fun j hj=>(HG3.out.block j (Nat.lt_of_lt_of_le hj HB2.out.size) (fun e=>by injection e with e;have:=HG.out;omega)).trans (HB2.out.block j hj)⟩
         ·rw[take_snocG gr k hkg,gateD_snoc,←HX.out.1,←HX.out.2]
          exact HO3.out
        case measure=>simp[intOf];omega
   ·have hk2:k=n:=by omega
    subst hk2;have HE:=Lib.hid (And.intro hB (And.intro hR (And.intro hO (And.intro hnd hb))));clear hB hR hO hnd hb;go_wp2_with fail;go_ret2;have hE:=HE.out;have e9:gr.take k=gr:=List.take_of_length_le (by have:=HNN.out;omega);rw[e9]at hE;obtain⟨e1,e2,e3,e4,e5⟩:=hE;have hok:GrOk gr:=⟨by have:=HNN.out;omega,e4,e5⟩;refine⟨e1,.inl ⟨hok,gb,rfl,gb,mp,rfl,by have:=HG.out;omega,by have:=HG.out;omega,cell_of_row wr gb 0 _ _ _ e2,?_,hok⟩⟩;rw[←HNN.out];exact e3
end
def zRow:List Value:=[.int .u32 0,.int .u32 0,.pointer none,.int .u8 0,.int .u32 0,.int .u32 0,.slice none 0 0,.int .u32 0,.int .u8 0,.bool false,.slice none 0 0,.slice none 0 0,.slice none 0 0]
def newRow (p0 p1 p2:Value):Array Value:=#[p0,p1,p2]++actT 60++zRow.toArray
theorem run_b247 (mb gb:Nat) (a:Option Addr) (n c:Nat) (w:World):(Instr.build 85 #[(0,.pointer (some ⟨mb,0,none⟩)),(1,.pointer (some ⟨gb,0,none⟩)),(2,.slice a n c),(3,.agg (actT 60))]).run Tryz.prog w=.ok (.agg (newRow (.pointer (some ⟨mb,0,none⟩)) (.pointer (some ⟨gb,0,none⟩)) (.slice a n c))) w:=by kernel_rfl
theorem exec_build4 {P:Program} {o:Oper} {ρ:Operand→Value} {W:World} {t:TypeId} {x0 x1 x2 x3:Operand} {v0 v1 v2 v3 u:Value} (ho:o.op=.build t #[(0,x0),(1,x1),(2,x2),(3,x3)]) (h0:ρ x0=v0) (h1:ρ x1=v1) (h2:ρ x2=v2) (h3:ρ x3=v3)
 (hr:(Instr.build t #[(0,v0),(1,v1),(2,v2),(3,v3)]).run P W=.ok u W):(execOp ρ o).run P W=.ok (.value u) W:=by
 unfold execOp;simp only[ho,List.map_toArray,List.map_cons,List.map_nil,h0,h1,h2,h3,Sem.run_bind,hr,Result.andThen_ok,Sem.run_pure]
theorem newRow_size (p0 p1 p2:Value):(newRow p0 p1 p2).size=76:=by
 unfold newRow zRow;simp[actT_size]
theorem actT_act {i:Nat} (h1:1≤i) (h:i<60):(actT 60)[i]?=some (.func (.func (actF i)) #[] #[]):=by
 rw[actT_at h,if_pos h];unfold tabF;rw[if_neg (by omega)]
theorem newRow_at (p0 p1 p2:Value) (i:Nat) (h:i<60):(newRow p0 p1 p2)[3+i]?=(actT 60)[i]?:=by
 unfold newRow;rw[Array.getElem?_append,if_pos (by simp[actT_size];omega),Array.getElem?_append,if_neg (by simp)];simp
theorem newRow_hi (p0 p1 p2:Value) (i:Nat):(newRow p0 p1 p2)[63+i]?=zRow[i]?:=by
 unfold newRow;rw[Array.getElem?_append,if_neg (by simp[actT_size])];simp[actT_size]
theorem newRow_lo (p0 p1 p2:Value):(newRow p0 p1 p2)[0]?=some p0∧(newRow p0 p1 p2)[1]?=some p1∧(newRow p0 p1 p2)[2]?=some p2:=by
 unfold newRow;refine⟨?_,?_,?_⟩<;>rw[Array.getElem?_append,if_pos (by simp[actT_size]),Array.getElem?_append,if_pos (by simp)]<;>rfl
def newK (p0 p1 p2:Value):MacK:=⟨p0,p1,p2,fun i=>(actT 60).getD i undef,0,0,.pointer none⟩
def newV:MacV:=⟨0,0,0,.slice none 0 0,0,0,false,.slice none 0 0,.slice none 0 0,.slice none 0 0⟩
theorem newRow_mac (p0 p1 p2:Value):MacRow (newRow p0 p1 p2) (newK p0 p1 p2) newV:=by
 obtain⟨l0,l1,l2⟩:=newRow_lo p0 p1 p2;refine⟨newRow_size _ _ _,l0,l1,l2,fun i hi=>?_,newRow_hi _ _ _ 0,newRow_hi _ _ _ 1,newRow_hi _ _ _ 2,newRow_hi _ _ _ 3,newRow_hi _ _ _ 4,newRow_hi _ _ _ 5,newRow_hi _ _ _ 6,newRow_hi _ _ _ 7,newRow_hi _ _ _ 8,newRow_hi _ _ _ 9,newRow_hi _ _ _ 10,newRow_hi _ _ _ 11,newRow_hi _ _ _ 12⟩;rw[newRow_at _ _ _ i hi]
 show _=some ((actT 60).getD i undef)
 rw[Array.getD_eq_getD_getElem?,actT_at hi];rfl
theorem MacRow.setFloor {cs:Array Value} {K:MacK} {V:MacV} (h:MacRow cs K V) (v:Nat):MacRow (cs.setIfInBounds 63 (.int .u32 v)) {K with floor:=v} V:=by
 have hs:=h.size
 have hg:∀(j:Nat) (x:Value),j≠63→cs[j]?=some x→(cs.setIfInBounds 63 (.int .u32 v))[j]?=some x:=fun j x hj hx=>by
  rw[Array.getElem?_setIfInBounds,if_neg (fun e=>hj e.symm),hx]
 exact⟨by simpa using hs,hg 0 _ (by omega) h.c0,hg 1 _ (by omega) h.c1,hg 2 _ (by omega) h.c2,fun k hk=>hg _ _ (by omega) (h.acts k hk),
  by rw[Array.getElem?_setIfInBounds,if_pos rfl,if_pos (by omega)],hg 64 _ (by omega) h.c64,hg 65 _ (by omega) h.c65,hg 66 _ (by omega) h.c66,hg 67 _ (by omega) h.c67,hg 68 _ (by omega) h.c68,hg 69 _ (by omega) h.c69,hg 70 _ (by omega) h.c70,hg 71 _ (by omega) h.c71,hg 72 _ (by omega) h.c72,hg 73 _ (by omega) h.c73,hg 74 _ (by omega) h.c74,hg 75 _ (by omega) h.c75⟩
theorem MacRow.setTop {cs:Array Value} {K:MacK} {V:MacV} (h:MacRow cs K V) (v:Nat):MacRow (cs.setIfInBounds 64 (.int .u32 v)) {K with top:=v} V:=by
 have hs:=h.size
 have hg:∀(j:Nat) (x:Value),j≠64→cs[j]?=some x→(cs.setIfInBounds 64 (.int .u32 v))[j]?=some x:=fun j x hj hx=>by
  rw[Array.getElem?_setIfInBounds,if_neg (fun e=>hj e.symm),hx]
 exact⟨by simpa using hs,hg 0 _ (by omega) h.c0,hg 1 _ (by omega) h.c1,hg 2 _ (by omega) h.c2,fun k hk=>hg _ _ (by omega) (h.acts k hk),hg 63 _ (by omega) h.c63,
  by rw[Array.getElem?_setIfInBounds,if_pos rfl,if_pos (by omega)],hg 65 _ (by omega) h.c65,hg 66 _ (by omega) h.c66,hg 67 _ (by omega) h.c67,hg 68 _ (by omega) h.c68,hg 69 _ (by omega) h.c69,hg 70 _ (by omega) h.c70,hg 71 _ (by omega) h.c71,hg 72 _ (by omega) h.c72,hg 73 _ (by omega) h.c73,hg 74 _ (by omega) h.c74,hg 75 _ (by omega) h.c75⟩
section
variable {w:World} {b:Nat} {K:MacK} {V:MacV} {mb:Nat} {m:Img} {gr:List (Nat×Int)}
theorem MacB.setFloor (h:MacB w b K V) (v:Nat):MacB (w.setCell ⟨b,63,none⟩ (.int .u32 v)) b {K with floor:=v} V:=by
 obtain⟨cs,h,r⟩:=h;exact⟨_,heap_setCell_same w b 63 _ _ _ h,r.setFloor v⟩
theorem MacB.setTop (h:MacB w b K V) (v:Nat):MacB (w.setCell ⟨b,64,none⟩ (.int .u32 v)) b {K with top:=v} V:=by
 obtain⟨cs,h,r⟩:=h;exact⟨_,heap_setCell_same w b 64 _ _ _ h,r.setTop v⟩
end
theorem shl_pow {k:Nat} (h8:8≤k) (h16:k≤16):IntKind.u32.wrap ((2:Int) ^ min k 32)=((2 ^ k:Nat):Int):=by
 rcases pow_cases h8 h16 with rfl|rfl|rfl|rfl|rfl|rfl|rfl|rfl|rfl<;>decide
theorem Home.new {w w':World} {F:Nat→Prop} (hb:Below w.heap.size w w') (hf:∀k,F k→w.heap.size≤k):Home w w' F:=⟨hb,hf⟩
def R0:MacR:=⟨false,.slice none 0 0,.slice none 0 0,.slice none 0 0⟩
def NewPost (mb:Nat) (m:Img) (gr:List (Nat×Int)) (w:World) (e:Ending) (w':World):Prop:=
 Below w.heap.size w w'∧((¬GrOk gr∧e=.returned (.tuple #[.pointer none,.int .i64 160]))∨
  (GrOk gr∧∃w0 b K M vo,e=.returned (.tuple #[.pointer (some ⟨b,0,none⟩),.int .i64 0])∧Below w.heap.size w w0∧Rdy w0 w' b K (moOf m).fst vo R0 M (.slice none 0 0) [] gr mb m∧StatN w.heap.size w0 K mb m gr))
section
variable {w:World} {mb:Nat} {m:Img} {gr:List (Nat×Int)} {v:Value}
theorem mnew_any (hm:MAt w mb m) (hg:GrantsAt w v gr):Calls Tryz.prog 14 #[.pointer (some ⟨mb,0,none⟩),v] w (NewPost mb m gr w):=by
 have hmx:Tryz.prog.follows .mixedOrders=true:=by kernel_rfl
 have hz28:∀W:World,(zeroValue 28).run Tryz.prog W=.ok (.agg #[.slice none 0 0,.slice none 0 0,.slice none 0 0,.int .u32 0,.int .u32 0,.slice none 0 0]) W:=fun W=>by kernel_rfl
 have hz51:=zeroS51;have hsh:=shl_pow (moOk hm.k).k8 (moOk hm.k).k16;obtain⟨z1,z2,z3,z4,z5,z6⟩:=(moOk hm.k).sizes;have hkk:(moOf m).k=bitsI m:=rfl;obtain⟨P2,hP2⟩:∃P2,P2=2 ^ (moOf m).k:=⟨_,rfl⟩;rw[←hP2]at hsh z1 z2 z3;rw[hkk]at hsh;have HFr:=Lib.hid (fresh_any hm);have HNG:=Lib.hid (fun W (hW:Below w.heap.size w W)=>newgate_any (hg.below hW));have HIm:=Lib.hid (fun W (hW:Below w.heap.size w W)=>(hm.below hW).image);have HBi:=Lib.hid (fun W (hW:Below w.heap.size w W)=>(hm.below hW).bits);have HM:=Lib.hid hm;have HDt:Hid (∀x∈m.data,x<256):=Lib.hid (by obtain⟨w0,xc,xj,xd,xn,hx⟩:=hm.x;exact hx.d.2);have HP2:=Lib.hid hP2;have hst:(moOf m).im.stack=m.stack:=rfl;obtain⟨st,hst2⟩:∃st,st=m.stack:=⟨_,rfl⟩;rw[hst,←hst2]at z3 z4 z5;have HSt:=Lib.hid hst2;obtain⟨kb,hkb⟩:∃kb,kb=bitsI m:=⟨_,rfl⟩;rw[←hkb]at hsh HBi;obtain⟨FL,hFL⟩:∃FL:Nat,FL=P2 - st:=⟨_,rfl⟩;obtain⟨TP,hTP⟩:∃TP:Nat,TP=P2 - 64:=⟨_,rfl⟩;have wf:IntKind.u32.wrap ((P2:Int) - (st:Int))=(FL:Int):=by rw[IntKind.wrap_u32];omega
 have wt:IntKind.u32.wrap ((P2:Int) - 64)=(TP:Int):=by rw[IntKind.wrap_u32];omega
 have HFL:=Lib.hid (And.intro hFL hTP);obtain⟨Ψ,hΨ⟩:∃Ψ,Ψ=NewPost mb m gr w:=⟨_,rfl⟩;rw[←hΨ];have HPsi:=Lib.hid hΨ;obtain⟨⟨a9,cap9,hvv,-⟩,-⟩:=id hg;subst hvv;generalize gr.length=ng at*;obtain⟨fst,hfst⟩:∃fst,fst=(moOf m).fst:=⟨_,rfl⟩;have HFst:=Lib.hid hfst;obtain⟨ze,hze⟩:∃ze,ze=m.zero:=⟨_,rfl⟩;rw[←hze,←hst2]at HIm;clear hm hg hP2 z1 z2 z3 z4 z5 z6 hkk hst hst2 hkb hFL hTP hΨ hfst hze;go_enter Tryz.func14,Tryz.ntmps14;go_wp2_with fail;refine HFr.out.mono ?_;rintro e w1⟨vd,rfl,hod,hb1⟩;obtain⟨da,dc,hvd,-⟩:=own_sl hod;obtain⟨nd,hnd⟩:∃nd,nd=2 ^ bitsI m:=⟨_,rfl⟩;rw[←hnd]at hvd;subst hvd;rw[←HFst.out];have HOd:=Lib.hid hod;have HND:=Lib.hid hnd;have HB1:=Lib.hid hb1;unfold stV;clear hod hnd hb1;go_wp2_with fail;obtain⟨q6,hq6⟩:∃q,q=w1.heap.size:=⟨_,rfl⟩;obtain⟨W1,hW1⟩:∃W1,W1=w1.alloc (.cells #[.int .u8 fst.life,.int .u32 fst.pc,.int .u32 fst.sp,.slice none 0 0,.slice da nd dc,.int .u32 fst.value,.int .u8 fst.fault] 51):=⟨_,rfl⟩;have hbW1:Below w1.heap.size w1 W1:=by rw[hW1];exact Bel.new _ _
 have hr6:W1.heap[q6]?=some (.cells #[.int .u8 fst.life,.int .u32 fst.pc,.int .u32 fst.sp,.slice none 0 0,.slice da nd dc,.int .u32 fst.value,.int .u8 fst.fault] 51 (0,0)):=by rw[hW1,hq6];exact heap_alloc_new _ _
 have hB1:=Bel.tr HB1.out hbW1;rw[←hW1,←hq6];have HQ6:=Lib.hid hq6;clear hW1 hq6;refine(HNG.out W1 hB1).mono ?_;rintro e w2⟨hb2,hcase⟩;rcases hcase with⟨hok,gb,rfl,hga⟩|⟨hno,rfl⟩
 ·have hr62:=(hb2.block _ (Array.getElem?_eq_some_iff.1 hr6).1).trans hr6
  have HB2:=Lib.hid (Bel.tr hB1 hb2);have HR62:=Lib.hid hr62;have HGA:=Lib.hid hga;have HB1W:=Lib.hid (Bel.tr hbW1 hb2);have HS1:=Lib.hid hB1.size;clear hr6 hr62 hb2 hbW1 hB1 hga;go_wp2_with fail;refine(HIm.out w2 HB2.out).mono ?_;rintro e w3⟨uc,uj,ud,un,rfl,himg,hb3⟩;obtain⟨gc,cc,huc,-⟩:=own_sl himg.c;obtain⟨nc,hnc2⟩:∃nc,nc=m.code.length:=⟨_,rfl⟩;have huc2:uc=.slice gc nc cc:=by rw[huc,hnc2]
  obtain⟨aj,cj,huj,-⟩:=own_sl himg.j;obtain⟨ad,cd,hud,-⟩:=own_sl himg.d;obtain⟨an,cn,hun,-⟩:=own_sl himg.n;have HC:=Lib.hid himg.c;rw[huc2]at HC⊢;clear huc huc2 himg;rw[huj,hud,hun];generalize m.js.length=nj at*;generalize m.data.length=nd2 at*;generalize m.lx.length=nn at*;have HNC:=Lib.hid hnc2;have HB3:=Lib.hid (Bel.tr HB2.out hb3);have HB23:=Lib.hid hb3;clear huj hud hun hnc2 hb3;go_wp2_with fail;obtain⟨q9,hq9⟩:∃q,q=w3.heap.size:=⟨_,rfl⟩;obtain⟨W3,hW3⟩:∃W3,W3=w3.alloc (.cells #[.slice gc nc cc,.slice aj nj cj,.slice ad nd2 cd,.int .u32 ze,.int .u32 st,.slice an nn cn] 28):=⟨_,rfl⟩;have hbW3:Below w3.heap.size w3 W3:=by rw[hW3];exact Bel.new _ _
  have hr9:W3.heap[q9]?=some (.cells #[.slice gc nc cc,.slice aj nj cj,.slice ad nd2 cd,.int .u32 ze,.int .u32 st,.slice an nn cn] 28 (0,0)):=by rw[hW3,hq9];exact heap_alloc_new _ _
  have hr63:=(hbW3.block q6 (Nat.lt_of_lt_of_le (Array.getElem?_eq_some_iff.1 HR62.out).1 HB23.out.size)).trans ((HB23.out.block q6 (Array.getElem?_eq_some_iff.1 HR62.out).1).trans HR62.out);rw[←hW3,←hq9];have HQ9:=Lib.hid hq9;clear hW3 hq9;have hBW3:=Bel.tr HB3.out hbW3;have hH0:W3.drew.cell? ⟨q9,0,none⟩=some (.slice gc nc cc):=cell_of_row W3 q9 0 _ _ _ hr9;refine wp_region_held_drew (S:=fun W=>W.cell? ⟨q9,0,none⟩=some (.slice gc nc cc)) hmx hH0 (fun hHeld=>?_);refine tk 0 hHeld ?_;refine tk 1 hHeld ?_;refine tk 2 hHeld ?_;refine tk 3 hHeld ?_;refine rd 4 _ fun K hK=>?_;go_simp;refine(acts_any (w:=W3.drew)).mono ?_;rintro e w4⟨rfl,hb4⟩;have hr94:=(hb4.block q9 (Array.getElem?_eq_some_iff.1 hr9).1).trans (hr9:W3.drew.heap[q9]?=_);have hr64:=(hb4.block q6 (Array.getElem?_eq_some_iff.1 hr63).1).trans (hr63:W3.drew.heap[q6]?=_);have hH4:w4.cell? ⟨q9,0,none⟩=some (.slice gc nc cc):=cell_of_row w4 q9 0 _ _ _ hr94;refine hK.out _ _ hH4 (fun _=>?_);clear hK K
  try simp only[Act.put,aT,aZ,aS]
  have hb247:=run_b247 mb gb gc nc cc;refine wpAnyH_take (i:=5) (v:=.agg (newRow (.pointer (some ⟨mb,0,none⟩)) (.pointer (some ⟨gb,0,none⟩)) (.slice gc nc cc))) (by simp only[List.getElem?_toArray,List.getElem?_cons_succ,List.getElem?_cons_zero,Option.some.injEq];rfl) (by kernel_rfl) (by kernel_rfl) (by kernel_rfl) (by exact fun _ _ _ h=>h) (Or.inl ⟨by rfl,?_⟩) hH4 ?_
  ·exact fun wq hSw=>exec_build4 (v0:=.pointer (some ⟨mb,0,none⟩)) (v1:=.pointer (some ⟨gb,0,none⟩)) (v2:=.slice gc nc cc) (v3:=.agg (actT 60)) rfl rfl rfl rfl rfl (run_b247 mb gb gc nc cc wq)
  try simp only[Act.put,aT,aZ,aS]
  refine rd 6 _ fun K hK=>?_;go_simp;obtain⟨w5,hw5⟩:∃X,X=w4.alloc (.cells (newRow (.pointer (some ⟨mb,0,none⟩)) (.pointer (some ⟨gb,0,none⟩)) (.slice gc nc cc)) 85):=⟨_,rfl⟩;have hb5:Below w4.heap.size w4 w5:=by rw[hw5];exact Bel.new _ _
  have hrb:w5.heap[w4.heap.size]?=some (.cells (newRow (.pointer (some ⟨mb,0,none⟩)) (.pointer (some ⟨gb,0,none⟩)) (.slice gc nc cc)) 85 (0,0)):=by rw[hw5];exact heap_alloc_new _ _
  rw[←hw5];clear hw5;have hr95:=(hb5.block q9 (Array.getElem?_eq_some_iff.1 hr94).1).trans hr94;have hr65:=(hb5.block q6 (Array.getElem?_eq_some_iff.1 hr64).1).trans hr64;have hH5:w5.cell? ⟨q9,0,none⟩=some (.slice gc nc cc):=cell_of_row w5 q9 0 _ _ _ hr95;refine hK.out _ _ hH5 (fun _=>?_);clear hK K
  try simp only[Act.put,aT,aZ,aS]
  refine tk 7 hH5 ?_;refine wpAnyH_done (by kernel_rfl) ?_ _;have hBW4:Below w.heap.size w w4:=Bel.tr hBW3.drew hb4;obtain⟨b,hb⟩:∃b,b=w4.heap.size:=⟨_,rfl⟩;rw[←hb]at hrb⊢;have hmac:MacB w5 b (newK (.pointer (some ⟨mb,0,none⟩)) (.pointer (some ⟨gb,0,none⟩)) (.slice gc nc cc)) newV:=⟨_,hrb,newRow_mac _ _ _⟩;have HMac:=Lib.hid hmac;have HBb:=Lib.hid hb;have HBw:=Lib.hid (Bel.tr HB1W.out (Bel.tr (Bel.tr HB23.out hbW3).drew hb4));have HB4:=Lib.hid hBW4;have HB5:=Lib.hid hb5;have HR95:=Lib.hid hr95;have HR65:=Lib.hid hr65;have HGA4:=Lib.hid (HGA.out.below (Bel.tr (Bel.tr HB23.out hbW3).drew hb4));have HC4:=Lib.hid (own_downT (own_below HC.out (Bel.tr hbW3.drew hb4)) HB2.out.size);have HL94:Hid (q9<w4.heap.size∧q6<w4.heap.size):=Lib.hid ⟨(Array.getElem?_eq_some_iff.1 hr94).1,(Array.getElem?_eq_some_iff.1 hr64).1⟩;clear hHeld hH0 hH4 hH5 hr9 hr94 hr95 hr63 hr64 hr65 hb4 hb5 hbW3 hBW3 hBW4 hmac hrb hb hb247;go_wp2_with fail;have hB5:=Bel.tr HB4.out HB5.out;have hH6:w5.drew.cell? ⟨q9,4,none⟩=some (.int .u32 st):=cell_of_row w5 q9 4 _ _ _ HR95.out;refine wp_region_held_drew (S:=fun W=>W.cell? ⟨q9,4,none⟩=some (.int .u32 st)) hmx hH6 (fun hHeld=>?_);refine tk 0 hHeld ?_;refine tk 1 hHeld ?_;refine tk 2 hHeld ?_;refine tk 5 hHeld ?_;refine tk 6 hHeld ?_;refine tk 8 hHeld ?_;refine rd 3 _ fun K hK=>?_;go_simp;refine(HBi.out w5.drew hB5.drew).mono ?_;rintro e w6⟨rfl,rfl⟩;refine hK.out _ _ hHeld (fun _=>?_);clear hK K
  try simp only[Act.put,aT,aZ,aS]
  refine tk 4 hHeld ?_;refine tk 7 hHeld ?_;refine rd 9 _ fun K hK=>?_;go_simp;refine(HBi.out w5.drew hB5.drew).mono ?_;rintro e w6⟨rfl,rfl⟩;refine hK.out _ _ hHeld (fun _=>?_);clear hK K
  try simp only[Act.put,aT,aZ,aS]
  refine tk 10 hHeld ?_;refine tk 11 hHeld ?_;refine tk 12 hHeld ?_;refine tk 13 hHeld ?_;have m0:=HMac.out.fr (Fr.of (Below.refl _ _).drew (fun _=>False)) (fun e=>e);have hq9b:q9≠b:=fun e=>by have h1:=HQ9.out;have h2:=HBb.out;have h3:=HL94.out;omega
  have hq6b:q6≠b:=fun e=>by have h2:=HBb.out;have h3:=HL94.out;omega
  refine rd 14 ⟨none,.store 25 (.tmp 50) (.tmp 44),_,_,_,none⟩ fun K hK=>?_;rw[if_pos (by rfl)];refine outs_wp (R:=fun v W'=>v=undef∧W'=w5.drew.setCell ⟨b,63,none⟩ (.int .u32 FL)) (outs_store_at 25 (.tmp 50) (.tmp 44) rfl b 63 _ rfl rfl _ m0.cells.c63 (m0.cells.fz 63) tinfo25 rfl ⟨rfl,rfl⟩) ?_;rintro _ _⟨rfl,rfl⟩;have m1:=m0.setFloor FL;have f0:Fr w5.drew (w5.drew.setCell ⟨b,63,none⟩ (.int .u32 FL)) (fun k=>k=b) (fun k=>k=b):=Fr.setCell (F:=fun k=>k=b) _ (a:=⟨b,63,none⟩) rfl _;have r0:=f0.row (HR95.out:w5.drew.heap[q9]?=_) hq9b;obtain⟨x0,hx0⟩:∃X,X=w5.drew.setCell ⟨b,63,none⟩ (.int .u32 FL):=⟨_,rfl⟩;rw[←hx0]at m1 f0 r0⊢;clear hx0;have hS0:x0.cell? ⟨q9,4,none⟩=some (.int .u32 st):=cell_of_row x0 q9 4 _ _ _ r0;refine hK.out _ _ hS0 (fun _=>?_);clear hK K
  try simp only[Act.put,aT,aZ,aS]
  refine tk 15 hS0 ?_;refine tk 16 hS0 ?_;refine rd 17 ⟨none,.store 25 (.tmp 52) (.tmp 48),_,_,_,none⟩ fun K hK=>?_;rw[if_pos (by rfl)];refine outs_wp (R:=fun v W'=>v=undef∧W'=x0.setCell ⟨b,64,none⟩ (.int .u32 TP)) (outs_store_at 25 (.tmp 52) (.tmp 48) rfl b 64 _ rfl rfl _ m1.cells.c64 (m1.cells.fz 64) tinfo25 rfl ⟨rfl,rfl⟩) ?_;rintro _ _⟨rfl,rfl⟩;have m2:=m1.setTop TP;have f1:Fr x0 (x0.setCell ⟨b,64,none⟩ (.int .u32 TP)) (fun k=>k=b) (fun k=>k=b):=Fr.setCell (F:=fun k=>k=b) _ (a:=⟨b,64,none⟩) rfl _;have r1:=f1.row r0 hq9b;obtain⟨x1,hx1⟩:∃X,X=x0.setCell ⟨b,64,none⟩ (.int .u32 TP):=⟨_,rfl⟩;rw[←hx1]at m2 f1 r1⊢;clear hx1;have hS1:x1.cell? ⟨q9,4,none⟩=some (.int .u32 st):=cell_of_row x1 q9 4 _ _ _ r1;refine hK.out _ _ hS1 (fun _=>?_);clear hK K
  try simp only[Act.put,aT,aZ,aS]
  refine wpAnyH_done (by kernel_rfl) ?_ _;have hfx:Fr w5.drew x1 (fun k=>k=b) (fun k=>k=b):=f0.trans f1;have hr6x:=hfx.row (HR65.out:w5.drew.heap[q6]?=_) hq6b;have hB41:Below w4.heap.size w4 x1:=⟨hfx.os.trans HB5.out.os,hfx.tape.trans HB5.out.tape,hfx.output.trans HB5.out.output,Nat.le_trans HB5.out.size hfx.size,fun k hk=>(hfx.block k (Nat.lt_of_lt_of_le hk HB5.out.size) (fun e=>by have:=HBb.out;omega)).trans (HB5.out.block k hk)⟩;have hBx:=Bel.tr HB4.out hB41
  have hst:StAt x1 (.slice none 0 0) (.slice da nd dc) fst:=by
   rw[HFst.out];refine⟨⟨Reads.nil _ _,fun k=>by show([]:List Nat).getD k 0<_;simp⟩,⟨?_,?_⟩,fst_small (moOk HM.out.k) HDt.out⟩
   ·have h1:=own_reads (own_below HOd.out HBw.out)
    have h2:(moOf m).fst.data.length=nd:=(by rw[HND.out];exact fresh_length (moOk HM.out.k));rw[h2];rw[←HND.out]at h1;exact h1.below hB41
   ·exact(fst_small (moOk HM.out.k) HDt.out).d
  have HPt:=Lib.hid (mput_ok (V:=newV) (s:=fst) (vd:=.slice da nd dc) m2 rfl (HM.out.below hBx) hst (by rw[HFst.out];exact Nat.zero_le _) HM.out.k (by rw[HFst.out];exact fits_fst (moOk HM.out.k)) (fun b off n c e h0=>by cases e));unfold stV at HPt;obtain⟨t0,t1,t2,t3,t4,t5,t6⟩:=cells51 hr6x;have HB41:=Lib.hid hB41;have HBX:=Lib.hid hBx;clear hHeld hH6 hS0 hS1 m0 m1 m2 f0 f1 r0 r1 hfx hr6x hB41 hBx hst;go_wp2_with fail;refine HPt.out.mono ?_;rintro e w9⟨rfl,p,g,c,v1,hp,hg2,hmac,hops,hmem,hfr⟩;have HE:=Lib.hid (And.intro hp (And.intro hg2 (And.intro hmac (And.intro hops (And.intro hmem hfr)))));clear hp hg2 hmac hops hmem hfr t0 t1 t2 t3 t4 t5 t6;go_wp2_with fail;rw[HPsi.out];obtain⟨hp,hg2,hmac,hops,hmem,hfr⟩:=HE.out;have hB49:Below w4.heap.size w4 w9:=⟨hfr.os.trans HB41.out.os,hfr.tape.trans HB41.out.tape,hfr.output.trans HB41.out.output,Nat.le_trans HB41.out.size hfr.size,fun k hk=>(hfr.block k (Nat.lt_of_lt_of_le hk HB41.out.size) (fun e=>by have:=HBb.out;omega)).trans (HB41.out.block k hk)⟩;have hs41:=HB41.out.size;refine⟨Bel.tr HB4.out hB49,.inr ⟨hok,w4,b,{newK (.pointer (some ⟨mb,0,none⟩)) (.pointer (some ⟨gb,0,none⟩)) (.slice gc nc cc)with floor:=FL,top:=TP,mem:=.pointer (some ⟨p,0,none⟩)},⟨p,g,c,fst.data.length⟩,v1,rfl,HB4.out,?_⟩⟩;rw[←HFst.out];refine⟨?_,⟨HGA4.out.down HS1.out,HC4.out⟩⟩;refine⟨⟨HM.out.below HB4.out,rfl,HGA4.out.at_,own_base HC4.out,fun i h1 h2=>?_,?_,?_⟩,⟨⟨⟨hmac,own_base hops⟩,hmem,rfl⟩,World.ownsRow_nil _ _ _ _,fun y hy=>(by cases hy),fun y hy=>(by cases hy),World.ownsRow_nil _ _ _ _,Nat.zero_le _,fun g e=>(by cases e)⟩,⟨hB49,fun k e=>?_⟩,?_,by rw[HFst.out];exact fits_fst (moOk HM.out.k),rfl,rfl⟩
  ·show(actT 60).getD i undef=_
   rw[Array.getD_eq_getD_getElem?,actT_act h1 h2];rfl
  ·show FL=2 ^ (moOf m).k - m.stack
   rw[HFL.out.1,HP2.out,HSt.out]
  ·show TP=(moOf m).top
   rw[HFL.out.2,HP2.out];rfl
  ·have:=HBb.out
   rcases e with((e|e)|e|e|e)|e|e
   ·omega
   ·have:=(hops.lt k e).1;omega
   ·rw[e];show w4.heap.size≤p;omega
   ·rw[e];show w4.heap.size≤g;omega
   ·cases e
   ·cases e
   ·cases e
  ·rw[HFst.out]
   refine⟨fun x hx=>(by cases hx),?_,by show(0:Nat)<4294967296;decide⟩
   show(moOf m).top<4294967296
   have:=(moOk HM.out.k).sizes;unfold Mo.top;omega
 ·clear hr6
  go_wp2_with fail;rw[HPsi.out];exact⟨Bel.tr hB1 hb2,.inl ⟨hno,rfl⟩⟩
end
theorem kn_b2 (x y:Int) (w:World):(Instr.build 106 #[(0,.int .u8 x),(1,.int .u32 y)]).run Tryz.prog w=.ok (.agg #[.int .u8 x,.int .u32 y]) w:=by kernel_rfl
theorem kn_b1 (x:Int) (w:World):(Instr.build 106 #[(0,.int .u8 x)]).run Tryz.prog w=.ok (.agg #[.int .u8 x,.int .u32 0]) w:=by kernel_rfl
theorem kn_bs (w:World):(Instr.buildSlice 22 7 #[(0,.agg #[.int .u8 3,.int .u32 8]),(1,.agg #[.int .u8 9,.int .u32 12]),(2,.agg #[.int .u8 31,.int .u32 0]),(3,.agg #[.int .u8 12,.int .u32 0]),(4,.agg #[.int .u8 8,.int .u32 4294967294]),(5,.agg #[.int .u8 5,.int .u32 0]),(6,.agg #[.int .u8 4,.int .u32 8])]).run Tryz.prog w=.ok (.slice (some ⟨w.heap.size,0,none⟩) 7 7) (w.alloc (.cells #[.int .u8 3,.int .u32 8,.int .u8 9,.int .u32 12,.int .u8 31,.int .u32 0,.int .u8 12,.int .u32 0,.int .u8 8,.int .u32 4294967294,.int .u8 5,.int .u32 0,.int .u8 4,.int .u32 8] 106)):=by kernel_rfl
theorem kn_b28 (a:Option Addr) (n c:Nat) (w:World):(Instr.build 28 #[(0,.slice a n c),(4,.int .u32 128)]).run Tryz.prog w=.ok (.agg #[.slice a n c,.slice none 0 0,.slice none 0 0,.int .u32 0,.int .u32 128,.slice none 0 0]) w:=by kernel_rfl
theorem kn_z28 (w:World):(zeroValue 28).run Tryz.prog w=.ok (.agg #[.slice none 0 0,.slice none 0 0,.slice none 0 0,.int .u32 0,.int .u32 0,.slice none 0 0]) w:=by kernel_rfl
theorem kn_b166 (x y:Int) (w:World):(Instr.build 73 #[(0,.int .u32 x),(1,.int .i64 y)]).run Tryz.prog w=.ok (.agg #[.int .u32 x,.int .i64 y]) w:=by kernel_rfl
theorem kn_bs40 (x y:Int) (w:World):(Instr.buildSlice 29 1 #[(0,.agg #[.int .u32 x,.int .i64 y])]).run Tryz.prog w=.ok (.slice (some ⟨w.heap.size,0,none⟩) 1 1) (w.alloc (.cells #[.int .u32 x,.int .i64 y] 73)):=by kernel_rfl
theorem kn_b162 (x:Int) (w:World):(Instr.build 69 #[(0,.int .u32 x)]).run Tryz.prog w=.ok (.agg #[.int .u32 x,.slice none 0 0]) w:=by kernel_rfl
theorem kn_bs53 (x:Int) (w:World):(Instr.buildSlice 32 1 #[(0,.agg #[.int .u32 x,.slice none 0 0])]).run Tryz.prog w=.ok (.slice (some ⟨w.heap.size,0,none⟩) 1 1) (w.alloc (.cells #[.int .u32 x,.slice none 0 0] 69)):=by kernel_rfl
theorem instrs_K (w:World) (o:Obj):Instrs ((w.alloc (.cells #[.int .u8 3,.int .u32 8,.int .u8 9,.int .u32 12,.int .u8 31,.int .u32 0,.int .u8 12,.int .u32 0,.int .u8 8,.int .u32 4294967294,.int .u8 5,.int .u32 0,.int .u8 4,.int .u32 8] 106)).alloc o) (.slice (some ⟨w.heap.size,0,none⟩) 7 7) imK.code:=by
 refine⟨⟨_,_,rfl,rfl,Nat.le_refl _,by unfold maxLen;decide,(fun h=>by cases h),fun _=>⟨w.heap.size,0,rfl,by simp;omega,fun j hj=>?_⟩⟩,by decide⟩;have hj':j<14:=hj;have:j=0∨j=1∨j=2∨j=3∨j=4∨j=5∨j=6∨j=7∨j=8∨j=9∨j=10∨j=11∨j=12∨j=13:=by omega
 rcases this with rfl|rfl|rfl|rfl|rfl|rfl|rfl|rfl|rfl|rfl|rfl|rfl|rfl|rfl
 all_goals
  refine(cell_alE (cell_of_row (w.alloc (.cells #[.int .u8 3,.int .u32 8,.int .u8 9,.int .u32 12,.int .u8 31,.int .u32 0,.int .u8 12,.int .u32 0,.int .u8 8,.int .u32 4294967294,.int .u8 5,.int .u32 0,.int .u8 4,.int .u32 8] 106)) w.heap.size _ _ _ _ (heap_alloc_new _ _))).trans ?_;rfl
theorem grants1 (w:World) (x:Nat) (n:Int) (hx:x<4294967296):GrantsAt (w.alloc (.cells #[.int .u32 x,.int .i64 n] 73)) (.slice (some ⟨w.heap.size,0,none⟩) 1 1) [(x,n)]:=by
 refine⟨⟨_,_,rfl,rfl,Nat.le_refl _,by unfold maxLen;decide,(fun h=>by cases h),fun _=>⟨w.heap.size,0,rfl,by simp,fun j hj=>?_⟩⟩,fun g hg=>by simp at hg;rw[hg];exact hx⟩;have hj':j<2:=hj;rw[Nat.zero_add];refine(cell_of_row (w.alloc (.cells #[.int .u32 x,.int .i64 n] 73)) w.heap.size j _ _ _ (heap_alloc_new _ _)).trans ?_;have:j=0∨j=1:=by omega
 rcases this with rfl|rfl<;>rfl
def KnownPost (n:Int) (w:World) (e:Ending) (w':World):Prop:=
 Below w.heap.size w w'∧∃w0 b K M vo mb,e=.returned (.tuple #[.pointer (some ⟨mb,0,none⟩),.pointer (some ⟨b,0,none⟩)])∧Below w.heap.size w w0∧Rdy w0 w' b K (moOf imK).fst vo R0 M (.slice none 0 0) [] [(1,n)] mb imK
theorem known_any (n:Int) (h0:0≤n) (h15:n≤15) (w:World):Calls Tryz.prog 16 #[.int .i64 n] w (KnownPost n w):=by
 have h1:=kn_b1;have h2:=kn_b2;have h3:=kn_bs;have h4:=kn_b28;have h5:=kn_z28;have h6:=kn_b166;have h7:=kn_bs40;obtain⟨W1,hW1⟩:∃W1,W1=(w.alloc (.cells #[.int .u8 3,.int .u32 8,.int .u8 9,.int .u32 12,.int .u8 31,.int .u32 0,.int .u8 12,.int .u32 0,.int .u8 8,.int .u32 4294967294,.int .u8 5,.int .u32 0,.int .u8 4,.int .u32 8] 106)).alloc (.cells #[.slice (some ⟨w.heap.size,0,none⟩) 7 7,.slice none 0 0,.slice none 0 0,.int .u32 0,.int .u32 128,.slice none 0 0] 28):=⟨_,rfl⟩;have HB1:=Lib.hid (show Below w.heap.size w W1 from by rw[hW1];exact Bel.al (Bel.new _ _) _)
 have HI:=Lib.hid (show ImgAt W1 (.slice (some ⟨w.heap.size,0,none⟩) 7 7) (.slice none 0 0) (.slice none 0 0) (.slice none 0 0) imK from by
  rw[hW1]
  exact⟨instrs_K w _,⟨Reads.nil _ _,fun k=>by simp[imK]⟩,⟨Reads.nil _ _,fun x hx=>by simp[imK]at hx⟩,⟨Reads.nil _ _,fun k=>by simp[imK]⟩,by decide,by decide⟩)
 have HTk:=Lib.hid (takeV_any _ _ _ _ imK W1 HI.out);rw[show((imK.zero:Nat):Int)=0 from rfl,show((imK.stack:Nat):Int)=128 from rfl]at HTk;have hok1:GrOk [(1,n)]:=⟨by simp,by simp,fun g hg=>by simp at hg;rw[hg];exact⟨h0,h15,by show(1:Nat)≤2147483647;decide⟩⟩;have HOk1:=Lib.hid hok1;clear h0 h15 hok1;go_enter Tryz.func16,Tryz.ntmps16;go_wp2_with fail;rw[←hW1];clear hW1;refine HTk.out.mono ?_;rintro e w2⟨hb2,⟨x,c,rfl,hbad⟩|⟨mb,rfl,hok,hmod⟩⟩
 ·exact(okK.not_bad hbad).elim
 have HB2:=Lib.hid (Bel.tr HB1.out hb2);have HM2:=Lib.hid (show MAt w2 mb imK from⟨hok,⟨_,hmod⟩,⟨_,_,_,_,_,HI.out⟩⟩);have HNw:=Lib.hid (mnew_any (HM2.out.below (Bel.new w2 (.cells #[.int .u32 ((1:Nat):Int),.int .i64 n] 73))) (grants1 w2 1 n (by decide)));clear hb2 hok hmod;go_wp2_with fail;refine HNw.out.mono ?_;rintro e w3⟨hb3,⟨hno,rfl⟩|⟨-,w0,b,K,M,vo,rfl,hb0,hrdy,-⟩⟩
 ·exact(hno HOk1.out).elim
 have HB3:=Lib.hid (Bel.tr (Bel.tr HB2.out (Bel.new _ _)) hb3);have HB0:=Lib.hid (Bel.tr (Bel.tr HB2.out (Bel.new _ _)) hb0);have HR:=Lib.hid hrdy;clear hb3 hb0 hrdy;go_wp2_with fail;go_ret2;exact⟨HB3.out,w0,b,K,M,vo,mb,rfl,HB0.out,HR.out⟩
theorem sameBytes_any {w:World} {v1 v2:Value} {a b:List Nat} (h1:Bytes w v1 a) (h2:Bytes w v2 b) :
 Calls Tryz.prog 37 #[v1,v2] w fun e w'=>e=.returned (.bool (decide (a=b)))∧Below w.heap.size w w':=by
 obtain⟨a1,c1,rfl,hn1,hm1,-,hp1⟩:=Bytes.opened h1;obtain⟨a2,c2,rfl,-,hm2,-,hp2⟩:=Bytes.opened h2;have P1:=Lib.hid hp1;have P2:=Lib.hid hp2;have hl9:a.length≤9223372036854775807:=by unfold maxLen at hm1;omega
 clear hp1 hp2 h1 h2 hm1 hm2 hn1;obtain⟨R,hR⟩:∃R:Bool,R=decide (a=b):=⟨_,rfl⟩;rw[←hR];have HR:=Lib.hid hR;clear hR;by_cases hl:a.length=b.length
 ·rw[←hl]at P2⊢
  have HX:=Lib.hid (fun (h:∀j,j<a.length→a.getD j 0=b.getD j 0)=>ext_getD hl h);have HL:=Lib.hid hl;generalize hnn:a.length=n at*;go_enter Tryz.func37,Tryz.ntmps37;go_wp2_with fail
  go_loopw[5] (fun i wr=>∃k:Nat,k≤n∧i=.int .i64 k∧(∀j,j<k→a.getD j 0=b.getD j 0)∧Below w.heap.size w wr) (fun i _=>n - (intOf i).toNat)
  case atStart=>exact⟨0,by omega,rfl,fun j hj=>absurd hj (Nat.not_lt_zero j),Below.refl _ _⟩
  case round=>
   obtain⟨k,hk,rfl,hj,hb⟩:=hrel;have HJ:=Lib.hid hj;have HB:=Lib.hid hb;clear hj hb;by_cases hlt:k<n
   ·obtain⟨b1,o1,rfl,hb1,hc1⟩:=P1.out (by omega)
    obtain⟨b2,o2,rfl,hb2,hc2⟩:=P2.out (by omega);have y1:=(HB.out.cell (p:=⟨b1,o1+k,none⟩) hb1).trans (hc1 k hlt);have y2:=(HB.out.cell (p:=⟨b2,o2+k,none⟩) hb2).trans (hc2 k hlt);have hki:(k:Int)<(n:Int):=(by omega);have hk0:(0:Int)≤(k:Int):=(by omega);clear hc1 hc2;by_cases heq:a.getD k 0=b.getD k 0
    ·have HE:=Lib.hid heq
     rw[heq]at y1;clear heq;generalize b.getD k 0=x at y1 y2;go_wp2_with fail
     go_quiet(fail)
     go_wp2
     go_roundw
     case rel=>exact⟨k+1,by omega,by go_num,fun j hj=>by
      by_cases e:j=k
      ·rw[e];exact HE.out
      ·exact HJ.out j (by omega),below_drewN HB.out nq⟩
     case measure=>simp[intOf];omega
    ·have hne:a≠b:=fun e=>heq (by rw[e])
     have hd1:=int_beq_ne heq;have hd2:(((a.getD k 0:Nat):Int)!=((b.getD k 0:Nat):Int))=true:=(by rw[bne,hd1];rfl);have HF:=Lib.hid (HR.out.trans (decide_eq_false hne));clear heq;generalize a.getD k 0=x1 at y1 hd1 hd2;generalize b.getD k 0=x2 at y2 hd1 hd2;go_wp2_with fail
     go_quiet(fail)
     go_wp2;go_ret;exact⟨ret_boolE HF.out.symm,below_drewN HB.out nq⟩
   ·obtain rfl:k=n:=by omega
    have HF:=Lib.hid (HR.out.trans (decide_eq_true (HX.out HJ.out)));go_wp2_with fail;go_ret;exact⟨ret_boolE HF.out.symm,HB.out⟩
 ·have hne:a≠b:=fun e=>hl (by rw[e])
  have hd1:=int_beq_ne hl;have hd2:(((a.length:Nat):Int)!=((b.length:Nat):Int))=true:=by rw[bne,hd1];rfl
  have HF:=Lib.hid (HR.out.trans (decide_eq_false hne));go_enter Tryz.func37,Tryz.ntmps37;go_wp2_with fail;go_ret;exact⟨ret_boolE HF.out.symm,Below.refl _ _⟩
theorem encN_nth {q:IntKind} (l:List Nat) (k:Nat) (h:k<l.length):(encN q l)[k]?=some (.int q (l.getD k 0)):=by
 unfold encN;rw[List.getElem?_map,List.getD_eq_getElem?_getD,List.getElem?_eq_getElem h];rfl
theorem encN_lenq {q:IntKind} (l:List Nat):(encN q l).length=l.length:=by unfold encN;simp
theorem encE_at:∀(l:List (Ev×Value)) (k:Nat) (d:Ev×Value),k<l.length→(encE l)[k*4]?=some (.int .u32 (l.getD k d).1.at_)∧(encE l)[k*4+1]?=some (.int .u32 (l.getD k d).1.num)∧(encE l)[k*4+2]?=some (l.getD k d).2∧(encE l)[k*4+3]?=some (.int .u32 (l.getD k d).1.val)
 | [],k,_,h=>absurd h (Nat.not_lt_zero k)
 | x::l,0,_,_=>⟨rfl,rfl,rfl,rfl⟩
 | x::l,k+1,d,h=>by
  have:=encE_at l k d (by simpa using h);rw[show(k+1)*4=k*4+1+1+1+1 from by omega]
  simpa[encE]using this
section
variable {w:World}
theorem sameWords_yes {v1 v2:Value} {n:Nat} {a:List Nat} (hna:n=a.length) (h1:Reads w 1 v1 n (encN .u32 a)) (h2:Reads w 1 v2 n (encN .u32 a)) :
 Calls Tryz.prog 36 #[v1,v2] w fun e w'=>e=.returned (.bool true)∧Below w.heap.size w w':=by
 obtain⟨a1,c1,rfl,-,-,hm1,-,hp1⟩:=h1;obtain⟨a2,c2,rfl,-,hn2,hm2,-,hp2⟩:=h2;have P1:=Lib.hid hp1;have P2:=Lib.hid hp2;have HNA:=Lib.hid hna;have hl9:n≤9223372036854775807:=by unfold maxLen at hm2;omega
 clear hp1 hp2 hm1 hm2 hn2 hna;go_enter Tryz.func36,Tryz.ntmps36;go_wp2_with fail
 go_loopw[5] (fun i wr=>∃k:Nat,k≤n∧i=.int .i64 k∧Below w.heap.size w wr) (fun i _=>n - (intOf i).toNat)
 case atStart=>exact⟨0,by omega,rfl,Below.refl _ _⟩
 case round=>
  obtain⟨k,hk,rfl,hb⟩:=hrel;have HB:=Lib.hid hb;clear hb;by_cases hlt:k<n
  ·obtain⟨b1,o1,rfl,hb1,hc1⟩:=P1.out (by omega)
   obtain⟨b2,o2,rfl,hb2,hc2⟩:=P2.out (by omega);have hka:k<a.length:=by have:=HNA.out;omega
   have y1:=(HB.out.cell (p:=⟨b1,o1+k,none⟩) hb1).trans ((hc1 k (by rw[encN_lenq];exact hka)).trans (encN_nth a k hka));have y2:=(HB.out.cell (p:=⟨b2,o2+k,none⟩) hb2).trans ((hc2 k (by rw[encN_lenq];exact hka)).trans (encN_nth a k hka));have hki:(k:Int)<(n:Int):=by omega
   have hk0:(0:Int)≤(k:Int):=by omega
   clear hc1 hc2 hka;generalize a.getD k 0=x at y1 y2;go_wp2_with fail
   go_quiet(fail)
   go_wp2
   go_roundw
   case rel=>exact⟨k+1,by omega,by go_num,below_drewN HB.out nq⟩
   case measure=>simp[intOf];omega
  ·obtain rfl:k=n:=by omega
   go_wp2_with fail;go_ret;exact⟨rfl,HB.out⟩
theorem sameEvent_yes {at_ nu va:Nat} {p1 p2:Option Addr} {na q1 q2:Nat} {a:List Nat} (hna:na=a.length) (h1:Reads w 1 (.slice p1 na q1) na (encN .u32 a)) (h2:Reads w 1 (.slice p2 na q2) na (encN .u32 a)) :
 Calls Tryz.prog 35 #[.agg #[.int .u32 at_,.int .u32 nu,.slice p1 na q1,.int .u32 va],.agg #[.int .u32 at_,.int .u32 nu,.slice p2 na q2,.int .u32 va]] w fun e w'=>e=.returned (.bool true)∧Below w.heap.size w w':=by
 have HS:=Lib.hid (fun W (hW:Below w.heap.size w W)=>sameWords_yes hna (h1.below hW) (h2.below hW));obtain⟨W0,hW0⟩:∃W0,W0=(w.alloc (.cells #[.int .u32 at_,.int .u32 nu,.slice p1 na q1,.int .u32 va] 42)).alloc (.cells #[.int .u32 at_,.int .u32 nu,.slice p2 na q2,.int .u32 va] 42):=⟨_,rfl⟩;have hb0:Below w.heap.size w W0:=by rw[hW0];exact Bel.tr (Bel.new _ _) (Bel.new _ _)
 have r1:W0.heap[w.heap.size]?=some (.cells #[.int .u32 at_,.int .u32 nu,.slice p1 na q1,.int .u32 va] 42 (0,0)):=by
  rw[hW0,heap_alloc_old _ _ (by simp)];exact heap_alloc_new _ _
 have r2:W0.heap[w.heap.size+1]?=some (.cells #[.int .u32 at_,.int .u32 nu,.slice p2 na q2,.int .u32 va] 42 (0,0)):=by
  rw[hW0];have h2:=heap_alloc_new (w.alloc (.cells #[.int .u32 at_,.int .u32 nu,.slice p1 na q1,.int .u32 va] 42)) (.cells #[.int .u32 at_,.int .u32 nu,.slice p2 na q2,.int .u32 va] 42);rw[World.size_alloc]at h2;exact h2
 obtain⟨c0,c1,c2,c3⟩:=cells62 r1;obtain⟨d0,d1,d2,d3⟩:=cells62 r2;have HB0:=Lib.hid hb0;rw[hW0]at c0 c1 c2 c3 d0 d1 d2 d3;clear h1 h2 hb0 r1 r2 hna;go_enter Tryz.func35,Tryz.ntmps35;go_wp2_with fail;rw[←hW0];refine(HS.out W0 HB0.out).mono ?_;rintro e w1⟨rfl,hb⟩;have HB:=Lib.hid (Bel.tr HB0.out hb);clear hb hW0;go_wp2_with fail;go_ret;exact⟨rfl,HB.out⟩
theorem sameEvents_yes {v1 v2:Value} {l:List Ev} {n:Nat} (hn:n=l.length) {F G:Nat→Prop} (h1:EvsAt w F v1 l) (h2:EvsAt w G v2 l) :
 Calls Tryz.prog 34 #[v1,v2] w fun e w'=>e=.returned (.bool true)∧Below w.heap.size w w':=by
 have hmx:Tryz.prog.follows .mixedOrders=true:=by kernel_rfl
 obtain⟨xs,hx,ho1,-,hw1⟩:=h1;obtain⟨ys,hy,ho2,-,hw2⟩:=h2;have l1:xs.length=l.length:=by rw[←hx,List.length_map]
 have l2:ys.length=l.length:=by rw[←hy,List.length_map]
 obtain⟨a1,c1,rfl,-,hn1,hm1,-,hp1⟩:=own_reads ho1;obtain⟨a2,c2,rfl,-,hn2,hm2,-,hp2⟩:=own_reads ho2;rw[l1,←hn]at hp1 hn1⊢;rw[l2,←hn]at hp2 hn2⊢;have P1:=Lib.hid hp1;have P2:=Lib.hid hp2;have HN:=Lib.hid hn;have HL:=Lib.hid (And.intro l1 l2);have HX:=Lib.hid (And.intro hx hy);have HW:=Lib.hid (And.intro hw1 hw2);have hl9:n≤9223372036854775807:=by unfold maxLen at hm2;omega
 clear hp1 hp2 hm1 hm2 hn1 hn2 hn l1 l2 hx hy hw1 hw2 ho1 ho2;go_enter Tryz.func34,Tryz.ntmps34;go_wp2_with fail
 go_loopw[5] (fun i wr=>∃k:Nat,k≤n∧i=.int .i64 k∧Below w.heap.size w wr) (fun i _=>n - (intOf i).toNat)
 case atStart=>exact⟨0,by omega,rfl,Below.refl _ _⟩
 case round=>
  obtain⟨k,hk,rfl,hb⟩:=hrel;have HB:=Lib.hid hb;clear hb;by_cases hlt:k<n
  ·obtain⟨b1,o1,rfl,hb1,hc1⟩:=P1.out (by omega)
   obtain⟨b2,o2,rfl,hb2,hc2⟩:=P2.out (by omega);have k1:k<xs.length:=by have:=HN.out;have:=HL.out;omega
   have k2:k<ys.length:=by have:=HN.out;have:=HL.out;omega
   obtain⟨x,hxx⟩:∃x,x=xs.getD k (askZ,undef):=⟨_,rfl⟩;obtain⟨y,hyy⟩:∃y,y=ys.getD k (askZ,undef):=⟨_,rfl⟩;obtain⟨e0,e1,e2,e3⟩:=encE_at xs k (askZ,undef) k1;obtain⟨f0,f1,f2,f3⟩:=encE_at ys k (askZ,undef) k2;rw[←hxx]at e0 e1 e2 e3;rw[←hyy]at f0 f1 f2 f3;have hxm:x∈xs:=by rw[hxx,List.getD_eq_getElem?_getD,List.getElem?_eq_getElem k1];exact List.getElem_mem k1
   have hym:y∈ys:=by rw[hyy,List.getD_eq_getElem?_getD,List.getElem?_eq_getElem k2];exact List.getElem_mem k2
   have hxy:x.1=y.1:=by
    have g1:(xs.map (·.1)).getD k askZ=x.1:=(by rw[hxx,List.getD_eq_getElem?_getD,List.getElem?_map,List.getD_eq_getElem?_getD,List.getElem?_eq_getElem k1];rfl);have g2:(ys.map (·.1)).getD k askZ=y.1:=(by rw[hyy,List.getD_eq_getElem?_getD,List.getElem?_map,List.getD_eq_getElem?_getD,List.getElem?_eq_getElem k2];rfl);rw[←g1,←g2,HX.out.1,HX.out.2]
   have ow1:=(HW.out.1 x hxm).1;have ow2:=(HW.out.2 y hym).1;rw[←hxy]at f0 f1 f3 ow2;obtain⟨p1,q1,hv1,-⟩:=own_sl ow1;obtain⟨p2,q2,hv2,-⟩:=own_sl ow2;have R1:=own_reads ow1;have R2:=own_reads ow2;rw[hv1]at e2 R1;rw[hv2]at f2 R2;obtain⟨xe,hxe⟩:∃xe,xe=x.1:=⟨_,rfl⟩;rw[←hxe]at e0 e1 e2 e3 f0 f1 f2 f3 R1 R2;have le1:=encE_length xs;have le2:=encE_length ys;have y0:=(HB.out.cell (p:=⟨b1,o1+k*4,none⟩) hb1).trans ((hc1 (k*4) (by omega)).trans e0);have y1:=(HB.out.cell (p:=⟨b1,o1+k*4+1,none⟩) hb1).trans ((hc1 (k*4+1) (by omega)).trans e1);have y2:=(HB.out.cell (p:=⟨b1,o1+k*4+2,none⟩) hb1).trans ((hc1 (k*4+2) (by omega)).trans e2);have y3:=(HB.out.cell (p:=⟨b1,o1+k*4+3,none⟩) hb1).trans ((hc1 (k*4+3) (by omega)).trans e3);have z0:=(HB.out.cell (p:=⟨b2,o2+k*4,none⟩) hb2).trans ((hc2 (k*4) (by omega)).trans f0);have z1:=(HB.out.cell (p:=⟨b2,o2+k*4+1,none⟩) hb2).trans ((hc2 (k*4+1) (by omega)).trans f1);have z2:=(HB.out.cell (p:=⟨b2,o2+k*4+2,none⟩) hb2).trans ((hc2 (k*4+2) (by omega)).trans f2);have z3:=(HB.out.cell (p:=⟨b2,o2+k*4+3,none⟩) hb2).trans ((hc2 (k*4+3) (by omega)).trans f3);have HSE:=Lib.hid (fun W (hW:Below w.heap.size w W)=>sameEvent_yes (at_:=xe.at_) (nu:=xe.num) (va:=xe.val) (a:=xe.args) rfl (R1.below hW) (R2.below hW));have hki:(k:Int)<(n:Int):=by omega
   have hk0:(0:Int)≤(k:Int):=by omega
   have wk:IntKind.i64.wrap ((k:Int)+1)=(k:Int)+1:=IntWalk.i64_in _ (by omega);obtain⟨na,hna⟩:∃na,na=xe.args.length:=⟨_,rfl⟩;rw[←hna]at y2 z2 HSE;generalize xe.at_=at_ at*;generalize xe.num=nu at*;generalize xe.val=va at*;clear hc1 hc2 e0 e1 e2 e3 f0 f1 f2 f3 ow1 ow2 hv1 hv2 R1 R2 hxe le1 le2 hxy hxm hym hxx hyy k1 k2 hna;go_wp2_with fail;have hH0:((wr.drew.cell? ⟨b1,o1+k*4,none⟩=some (.int .u32 at_)∧wr.drew.cell? ⟨b1,o1+k*4+1,none⟩=some (.int .u32 nu))∧(wr.drew.cell? ⟨b1,o1+k*4+2,none⟩=some (.slice p1 na q1)∧wr.drew.cell? ⟨b1,o1+k*4+3,none⟩=some (.int .u32 va)))∧((wr.drew.cell? ⟨b2,o2+k*4,none⟩=some (.int .u32 at_)∧wr.drew.cell? ⟨b2,o2+k*4+1,none⟩=some (.int .u32 nu))∧(wr.drew.cell? ⟨b2,o2+k*4+2,none⟩=some (.slice p2 na q2)∧wr.drew.cell? ⟨b2,o2+k*4+3,none⟩=some (.int .u32 va))):=⟨⟨⟨y0,y1⟩,⟨y2,y3⟩⟩,⟨⟨z0,z1⟩,⟨z2,z3⟩⟩⟩;refine wp_region_held_drew (S:=fun W=>((W.cell? ⟨b1,o1+k*4,none⟩=some (.int .u32 at_)∧W.cell? ⟨b1,o1+k*4+1,none⟩=some (.int .u32 nu))∧(W.cell? ⟨b1,o1+k*4+2,none⟩=some (.slice p1 na q1)∧W.cell? ⟨b1,o1+k*4+3,none⟩=some (.int .u32 va)))∧((W.cell? ⟨b2,o2+k*4,none⟩=some (.int .u32 at_)∧W.cell? ⟨b2,o2+k*4+1,none⟩=some (.int .u32 nu))∧(W.cell? ⟨b2,o2+k*4+2,none⟩=some (.slice p2 na q2)∧W.cell? ⟨b2,o2+k*4+3,none⟩=some (.int .u32 va)))) hmx hH0 (fun hHeld=>?_);refine tk 0 hHeld ?_;refine tk 1 hHeld ?_;refine tk 2 hHeld ?_;refine tk 3 hHeld ?_;refine tk 4 hHeld ?_;refine tk 5 hHeld ?_;refine tk 6 hHeld ?_;refine tk 7 hHeld ?_;refine rd 8 _ fun K hK=>?_;go_simp;refine(HSE.out wr.drew HB.out.drew).mono ?_;rintro e w2⟨rfl,hb2'⟩;have hB2:=Bel.tr HB.out.drew hb2';have hH2:((w2.cell? ⟨b1,o1+k*4,none⟩=some (.int .u32 at_)∧w2.cell? ⟨b1,o1+k*4+1,none⟩=some (.int .u32 nu))∧(w2.cell? ⟨b1,o1+k*4+2,none⟩=some (.slice p1 na q1)∧w2.cell? ⟨b1,o1+k*4+3,none⟩=some (.int .u32 va)))∧((w2.cell? ⟨b2,o2+k*4,none⟩=some (.int .u32 at_)∧w2.cell? ⟨b2,o2+k*4+1,none⟩=some (.int .u32 nu))∧(w2.cell? ⟨b2,o2+k*4+2,none⟩=some (.slice p2 na q2)∧w2.cell? ⟨b2,o2+k*4+3,none⟩=some (.int .u32 va))):=⟨⟨⟨(hb2'.cell (p:=⟨b1,o1+k*4,none⟩) (Nat.lt_of_lt_of_le hb1 HB.out.size)).trans y0,(hb2'.cell (p:=⟨b1,o1+k*4+1,none⟩) (Nat.lt_of_lt_of_le hb1 HB.out.size)).trans y1⟩,⟨(hb2'.cell (p:=⟨b1,o1+k*4+2,none⟩) (Nat.lt_of_lt_of_le hb1 HB.out.size)).trans y2,(hb2'.cell (p:=⟨b1,o1+k*4+3,none⟩) (Nat.lt_of_lt_of_le hb1 HB.out.size)).trans y3⟩⟩,⟨⟨(hb2'.cell (p:=⟨b2,o2+k*4,none⟩) (Nat.lt_of_lt_of_le hb2 HB.out.size)).trans z0,(hb2'.cell (p:=⟨b2,o2+k*4+1,none⟩) (Nat.lt_of_lt_of_le hb2 HB.out.size)).trans z1⟩,⟨(hb2'.cell (p:=⟨b2,o2+k*4+2,none⟩) (Nat.lt_of_lt_of_le hb2 HB.out.size)).trans z2,(hb2'.cell (p:=⟨b2,o2+k*4+3,none⟩) (Nat.lt_of_lt_of_le hb2 HB.out.size)).trans z3⟩⟩⟩;refine hK.out _ _ hH2 (fun _=>?_);clear hK K
   try simp only[Act.put,aT,aZ,aS]
   refine tk 9 hH2 ?_;refine wpAnyH_done (by kernel_rfl) ?_ _;have HB2:=Lib.hid hB2;clear hHeld hH0 hH2 hB2 hb2' y0 y1 y2 y3 z0 z1 z2 z3;go_wp2_with fail
   go_roundw
   case rel=>exact⟨k+1,by omega,by go_num,HB2.out⟩
   case measure=>simp[intOf];omega
  ·obtain rfl:k=n:=by omega
   go_wp2_with fail;go_ret;exact⟨rfl,HB.out⟩
theorem cells64 {g:Nat} {x0 x1 x2 x3 x4 x5 x6 x7 x8 x9 x10:Value} (h:w.heap[g]?=some (.cells #[x0,x1,x2,x3,x4,x5,x6,x7,x8,x9,x10] 44 (0,0))):(w.cell? ⟨g,0,none⟩=some x0∧w.cell? ⟨g,1,none⟩=some x1∧w.cell? ⟨g,2,none⟩=some x2∧w.cell? ⟨g,3,none⟩=some x3∧w.cell? ⟨g,4,none⟩=some x4∧w.cell? ⟨g,5,none⟩=some x5)∧w.cell? ⟨g,6,none⟩=some x6∧w.cell? ⟨g,7,none⟩=some x7∧w.cell? ⟨g,8,none⟩=some x8∧w.cell? ⟨g,9,none⟩=some x9∧w.cell? ⟨g,10,none⟩=some x10:=
 ⟨⟨cell_of_row w g 0 _ _ _ h,cell_of_row w g 1 _ _ _ h,cell_of_row w g 2 _ _ _ h,cell_of_row w g 3 _ _ _ h,cell_of_row w g 4 _ _ _ h,cell_of_row w g 5 _ _ _ h⟩,cell_of_row w g 6 _ _ _ h,cell_of_row w g 7 _ _ _ h,cell_of_row w g 8 _ _ _ h,cell_of_row w g 9 _ _ _ h,cell_of_row w g 10 _ _ _ h⟩
theorem sameResult_yes {v1 v2:Value} {r:Res} {F G:Nat→Prop} (h1:ResAt w F v1 r) (h2:ResAt w G v2 r) :
 Calls Tryz.prog 12 #[v1,v2] w fun e w'=>e=.returned (.bool true)∧Below w.heap.size w w':=by
 obtain⟨ve1,va1,rfl,hE1,hA1,-⟩:=h1;obtain⟨ve2,va2,rfl,hE2,hA2,-⟩:=h2;have HEv:=Lib.hid (fun W (hW:Below w.heap.size w W)=>sameEvents_yes rfl (hE1.fr (Fr.of hW F)) (hE2.fr (Fr.of hW G)));obtain⟨p1,ne1,q1,hv1⟩:∃a n c,ve1=.slice a n c:=by obtain⟨xs,-,ho,-⟩:=hE1;obtain⟨a,c,h,-⟩:=own_sl ho;exact⟨a,_,c,h⟩
 obtain⟨p2,ne2,q2,hv2⟩:∃a n c,ve2=.slice a n c:=by obtain⟨xs,-,ho,-⟩:=hE2;obtain⟨a,c,h,-⟩:=own_sl ho;exact⟨a,_,c,h⟩
 obtain⟨p3,q3,hv3,-⟩:=own_sl hA1;obtain⟨p4,q4,hv4,-⟩:=own_sl hA2;rw[hv3]at hA1;rw[hv4]at hA2;have HEa:=Lib.hid (fun W (hW:Below w.heap.size w W)=>sameEvent_yes (at_:=r.ask.at_) (nu:=r.ask.num) (va:=r.ask.val) (a:=r.ask.args) rfl ((own_reads hA1).below hW) ((own_reads hA2).below hW));subst hv1 hv2 hv3 hv4;unfold resRow;obtain⟨na,hna⟩:∃na,na=r.ask.args.length:=⟨_,rfl⟩;rw[←hna]at HEa⊢;clear hE1 hE2 hA1 hA2 hna;obtain⟨W0,hW0⟩:∃W0,W0=(w.alloc (.cells #[.int .u8 r.en,.int .u32 r.at_,.int .u32 r.value,.int .u8 r.fault,.int .i64 r.used,.int .i64 r.nrep,.slice p1 ne1 q1,.int .u32 r.ask.at_,.int .u32 r.ask.num,.slice p3 na q3,.int .u32 r.ask.val] 44)).alloc (.cells #[.int .u8 r.en,.int .u32 r.at_,.int .u32 r.value,.int .u8 r.fault,.int .i64 r.used,.int .i64 r.nrep,.slice p2 ne2 q2,.int .u32 r.ask.at_,.int .u32 r.ask.num,.slice p4 na q4,.int .u32 r.ask.val] 44):=⟨_,rfl⟩;have hb0:Below w.heap.size w W0:=by rw[hW0];exact Bel.tr (Bel.new _ _) (Bel.new _ _)
 have r1:W0.heap[w.heap.size]?=some (.cells #[.int .u8 r.en,.int .u32 r.at_,.int .u32 r.value,.int .u8 r.fault,.int .i64 r.used,.int .i64 r.nrep,.slice p1 ne1 q1,.int .u32 r.ask.at_,.int .u32 r.ask.num,.slice p3 na q3,.int .u32 r.ask.val] 44 (0,0)):=by
  rw[hW0,heap_alloc_old _ _ (by simp)];exact heap_alloc_new _ _
 have r2:W0.heap[w.heap.size+1]?=some (.cells #[.int .u8 r.en,.int .u32 r.at_,.int .u32 r.value,.int .u8 r.fault,.int .i64 r.used,.int .i64 r.nrep,.slice p2 ne2 q2,.int .u32 r.ask.at_,.int .u32 r.ask.num,.slice p4 na q4,.int .u32 r.ask.val] 44 (0,0)):=by
  rw[hW0];have h2:=heap_alloc_new (w.alloc (.cells #[.int .u8 r.en,.int .u32 r.at_,.int .u32 r.value,.int .u8 r.fault,.int .i64 r.used,.int .i64 r.nrep,.slice p1 ne1 q1,.int .u32 r.ask.at_,.int .u32 r.ask.num,.slice p3 na q3,.int .u32 r.ask.val] 44)) (.cells #[.int .u8 r.en,.int .u32 r.at_,.int .u32 r.value,.int .u8 r.fault,.int .i64 r.used,.int .i64 r.nrep,.slice p2 ne2 q2,.int .u32 r.ask.at_,.int .u32 r.ask.num,.slice p4 na q4,.int .u32 r.ask.val] 44);rw[World.size_alloc]at h2;exact h2
 have HB0:=Lib.hid hb0;have HR1:=Lib.hid r1;have HR2:=Lib.hid r2;obtain⟨⟨c0,c1,c2,c3,c4,c5⟩,c6,c7,c8,c9,c10⟩:=cells64 r1;obtain⟨⟨d0,d1,d2,d3,d4,d5⟩,d6,d7,d8,d9,d10⟩:=cells64 r2;rw[hW0]at c0 c1 c2 c3 c4 c5 c6 d0 d1 d2 d3 d4 d5 d6;clear c7 c8 c9 c10 d7 d8 d9 d10 hb0 r1 r2;go_enter Tryz.func12,Tryz.ntmps12;go_wp2_with fail;rw[←hW0];refine(HEv.out W0 HB0.out).mono ?_;rintro e w1⟨rfl,hb⟩;have HB1:=Lib.hid (Bel.tr HB0.out hb);have HH1:=Lib.hid ((hb.block _ (Array.getElem?_eq_some_iff.1 HR1.out).1).trans HR1.out);have HH2:=Lib.hid ((hb.block _ (Array.getElem?_eq_some_iff.1 HR2.out).1).trans HR2.out);clear hb hW0 c0 c1 c2 c3 c4 c5 c6 d0 d1 d2 d3 d4 d5 d6;obtain⟨-,-,c7,c8,c9,c10⟩:=cells64 HH1.out;obtain⟨-,-,d7,d8,d9,d10⟩:=cells64 HH2.out;go_wp2_with fail;refine(HEa.out w1 HB1.out).mono ?_;rintro e w2⟨rfl,hb⟩;have HB2:=Lib.hid (Bel.tr HB1.out hb);clear hb c7 c8 c9 c10 d7 d8 d9 d10;go_wp2_with fail;go_ret;exact⟨rfl,HB2.out⟩
end
end Go.Proofs.YtdffaepbkecoeaaGreat
