import Derived.Test.YtdffaepbkecoeaaGreatC4
import Derived.Laws.OwnMore
set_option maxRecDepth 100000
set_option maxHeartbeats 8000000
namespace Go.Proofs.YtdffaepbkecoeaaGreat
open Go.RowKit
set_option linter.unusedVariables false
set_option linter.unusedSimpArgs false
def tlR:Nat→Option Code→Option Code
 | 0,c=>c
 | n+1,c=>tlR n (match c with|some (.seq _ y)=>some y|_=>none)
theorem wp_tlR {P:Program} {Q:Exit→Act→World→Prop} {a:Act} {w:World} {k:Nat} {b:Option Code} {c c':Code} (hc:tlR k b=some c) (h:tlR k b=some c') (hw:c'.wp P Q a w):c.wp P Q a w:=by
 rw[hc]at h;cases h;exact hw
theorem inf62:(Tryz.prog.info? 42).map (fun i=>(i.zero,i.size,i.bytes))=some (some (.agg #[.int .u32 0,.int .u32 0,.slice none 0 0,.int .u32 0]),4,40):=by kernel_rfl
theorem run_bs60 (x y z:Int) (a:Option Addr) (n c:Nat) (w:World):(Instr.buildSlice 40 1 #[(0,.agg #[.int .u32 x,.int .u32 y,.slice a n c,.int .u32 z])]).run Tryz.prog w=.ok (.slice (some ⟨w.heap.size,0,none⟩) 1 1) (w.alloc (.cells #[.int .u32 x,.int .u32 y,.slice a n c,.int .u32 z] 42)):=by kernel_rfl
section
variable {w0 w w' W:World} {b q q6 x:Nat} {K:MacK} {V:MacV} {s s':St} {vo vo':Value} {R:MacR} {M:MemK} {vt vt':Value} {logs:Bool} {tou tou':List (Nat×Bool)} {evs:List (Ev×Value)} {lg:List (Nat×Bool)} {gr:List (Nat×Int)}
theorem MacB.c75 (h:MacB w b K V):w.cell? ⟨b,75,none⟩=some V.events:=by
 obtain⟨cs,h,r⟩:=h;exact(cell_of_row w b 75 _ _ _ h).trans r.c75
theorem MacB.setEvents (h:MacB w b K V) (v:Value):MacB (w.setCell ⟨b,75,none⟩ v) b K {V with events:=v}:=by
 obtain⟨cs,h,r⟩:=h;exact⟨_,heap_setCell_same w b 75 _ _ _ h,r.setEvents v⟩
theorem Mach.fr' {F F':Nat→Prop} (h:Mach w b K s vo R M vt logs tou) (hf:Fr w w' F F') (hn:∀k,machF b vo M vt k→¬F k):Mach w' b K s vo R M vt logs tou:=
 ⟨⟨h.o.m.fr hf (hn b (.inl (.inl rfl))),own_fr h.o.o hf (fun g e=>hn g (.inl (.inr e)))⟩,h.mem.fr hf (fun k hk=>hn k (.inr hk)),h.km⟩
theorem MachX.grewEv {W1 w3:World} (h:MachX W b K s vo R M vt logs tou evs lg) (hb:Below W.heap.size W W1) {v9:Value} {x:Ev×Value} (hg:Grew W1 w3 R.events v9) (hr:w3.ownsRow 0 42 4 v9 (evs.length+1) (encE evs++encE [x]))
 (hx:W.ownsRow 0 25 1 x.2 x.1.args.length (encN .u32 x.1.args)) (hxo:∀g,x.2.ownBlock=some g→¬allF b vo R M vt g) :
 MachX (w3.setCell ⟨b,75,none⟩ v9) b K s vo {R with events:=v9} M vt logs tou (evs++[x]) lg∧Fr W (w3.setCell ⟨b,75,none⟩ v9) (allF b vo R M vt) (allF b vo {R with events:=v9} M vt):=by
 have hf:Fr W w3 (fun k=>R.events.ownBlock=some k) (fun k=>v9.ownBlock=some k):=(Fr.of hb _).trans (Fr.grew (F:=fun k=>R.events.ownBlock=some k) (fun g e=>e) hg (fun k hk=>.inr hk));have hm3:=h.m.fr' hf (fun k hk e=>h.ev_apart k e hk);have hea:∀y∈evs,w3.ownsRow 0 25 1 y.2 y.1.args.length (encN .u32 y.1.args):=fun y hy=>own_fr (h.ea y hy) hf (fun g e e2=>own_apart h.ev (h.ea y hy) (by decide) g e2 e);have hlr:w3.ownsRow 0 66 2 R.log lg.length (encT lg):=own_fr h.lr hf (fun g e e2=>own_apart h.ev h.lr (by decide) g e2 e);have hxr:w3.ownsRow 0 25 1 x.2 x.1.args.length (encN .u32 x.1.args):=own_fr hx hf (fun g e e2=>hxo g e (.inr (.inl e2)));have hb3:=hm3.o.m;have hmm:Mach (w3.setCell ⟨b,75,none⟩ v9) b K s vo {R with events:=v9} M vt logs tou:=hm3.put (R':={R with events:=v9}) rfl (hb3.setEvents v9) rfl rfl;have hr':w3.ownsRow 0 42 4 v9 (evs++[x]).length (encE (evs++[x])):=by rw[encE_append,List.length_append];exact hr
 have hfs:Fr w3 (w3.setCell ⟨b,75,none⟩ v9) (fun k=>k=b) (fun k=>k=b):=Fr.setCell w3 (F:=fun k=>k=b) (a:=⟨b,75,none⟩) rfl v9;have hall:∀y∈evs++[x],w3.ownsRow 0 25 1 y.2 y.1.args.length (encN .u32 y.1.args):=fun y hy=>(List.mem_append.1 hy).elim (hea y) (fun hy=>by rw[List.mem_singleton]at hy;subst hy;exact hxr);refine⟨⟨hmm,own_fr hr' hfs (fun g e=>hb3.ne_own hr' (by decide) e),fun y hy=>own_fr (hall y hy) hfs (fun g e=>hb3.ne_own (hall y hy) (by decide) e),fun y hy g e e2=>?_,own_fr hlr hfs (fun g e=>hb3.ne_own hlr (by decide) e),h.ll,h.lv⟩,?_⟩
 ·rcases List.mem_append.1 hy with hy|hy
  ·exact h.eo y hy g e e2
  ·rw[List.mem_singleton]at hy;subst hy
   exact hxo g e (.inl (.inl (.inr e2)))
 ·refine(hf.mono (G:=allF b vo R M vt) (G1:=allF b vo {R with events:=v9} M vt) (fun i e=>.inr (.inl e)) (fun i e=>?_)).trans (Fr.setCell w3 (F:=allF b vo {R with events:=v9} M vt) (a:=⟨b,75,none⟩) (.inl (.inl (.inl rfl))) v9)
  rcases e with e|e|e
  ·exact .inl (.inl e)
  ·exact .inr e
  ·exact .inl (.inr (.inr e))
theorem sys_tail2 {c:Code} (hc:tlR 6 Tryz.f121.body=some c) {x2 x3 x4 x5 x7 x8 x9 x10 x11 x12 x13 x14 x15 x16 x17 x18 x19 x20 x21 x22 x23 x24 x25 x26 x27 x28 x29 x30 x31 x32 x33 x34 x35 x36 x37 x38 x39 x40 x41 x42 x43 x44 x45 x46 x47 x48 x49 x50 x51 x52 x53 x54 x55 x56 x57 x58 x59 x60 x61 x62 x63 x64 x65 x66 x67 x68 x69 x70 x71 x72 x73 x74 x75 x76 x77 x78 x79 x80 x81 x82 x83 x84 x85 x86 x87 x88 x89 x90:Value} {Φ:Ending→World→Prop}
 (h:MachX W b K s vo R M vt logs tou evs lg) (hh:Home w0 W (allF b vo R M vt)) (hg:GateAt w0 K.gate gr) {us:Value} {r:Rep} (hws:WsS W (allF b vo R M vt) us r.ws) (hrf:repFits r.ws=true)
 (hT:W.heap[q6]?=some (.cells #[.int .u32 r.val,us] 69 (0,0))) (hT9:¬allF b vo R M vt q6)
 {l:List Nat} {y:Nat} (ho:s.ops=l++[y]) (hln:l.length≤65535) (hp9:s.pc<4294967295)
 (hΦ:∀w' vo' vt',MachX w' b K {s with data:=applyN s.data r.ws,ops:=l++[r.val],pc:=s.pc+1} vo' R M vt' logs (touL logs tou (applyT M.N r.ws)) evs lg→
  Fr W w' (allF b vo R M vt) (allF b vo' R M vt')→Φ (.returned (.tuple #[])) w') :
 Code.wp Tryz.prog c (bodyPost Tryz.prog Tryz.f121 Φ) ⟨#[.pointer (some ⟨b,0,none⟩),.int .u32 x,x2,x3,x4,x5,.pointer (some ⟨q6,0,none⟩),x7,x8,x9,x10,x11,x12,x13,x14,x15,x16,x17,x18,x19,x20,x21,x22,x23,x24,x25,x26,x27,x28,x29,x30,x31,x32,x33,x34,x35,x36,x37,x38,x39,x40,x41,x42,x43,x44,x45,x46,x47,x48,x49,x50,x51,x52,x53,x54,x55,x56,x57,x58,x59,x60,x61,x62,x63,x64,x65,x66,x67,x68,x69,x70,x71,x72,x73,x74,x75,x76,x77,x78,x79,x80,x81,x82,x83,x84,x85,x86,x87,x88,x89,x90],[]⟩ W:=by
 refine wp_tlR hc rfl ?_;have hmx:Tryz.prog.follows .mixedOrders=true:=by kernel_rfl
 have k1:=h.m.o.m.cells.c1;obtain⟨gb,mp,hgv,-⟩:=id hg;rw[hgv]at k1;have k65:=h.m.c65;obtain⟨t0,t1⟩:=cells162 hT;have HAp:=Lib.hid (apply_any' (hg.below hh.b.drew) (h.m.mem.below (Below.refl _ _).drew) ((hws.fr (Fr.of (Below.refl _ _).drew _)).sub (G:=memF M.p M.g vt) (fun k e=>.inl (.inr e))) hrf r.val);rw[hgv]at HAp;have hlq:q6<W.heap.size:=(Array.getElem?_eq_some_iff.1 hT).1;obtain⟨ua,uc,rfl,-⟩:=id hws;have hw:IntKind.u32.wrap ((s.pc:Int)+1)=(s.pc:Int)+1:=by rw[IntKind.wrap_u32];omega
 generalize r.ws.length=nws at*;have HX:=Lib.hid h;have HT:=Lib.hid hT;have HT9:=Lib.hid hT9;have HO:=Lib.hid ho;have HΦ:=Lib.hid hΦ;clear h hh hg hws hT hT9 ho hΦ;go_wp2_with fail;refine wp_region_still_tail 9 hmx (by kernel_rfl) ?_;simp only[List.take_succ_cons,List.take_zero,List.drop_succ_cons,List.drop_zero]
 repeat still_step
 refine wpStill_nil ?_;change wpList _ _ _ _ _ W.drew;go_wp2_with fail;refine HAp.out.mono ?_;rintro e w2⟨rfl,vt2,m2,f2⟩;have hf2:Fr W w2 (memF M.p M.g vt) (memF M.p M.g vt2):=((Fr.refl W _).drew).trans f2;have hX2:=HX.out.act (HX.out.m.liftM m2 hf2) (frM hf2 b vo);have hT2:=hf2.row HT.out (fun e=>HT9.out (.inl (.inr e)));have HF2:=Lib.hid (frA (frM hf2 b vo) R);have HP:=Lib.hid (hX2.m.pop HO.out (by omega));have HX2:=Lib.hid hX2;have HT2:=Lib.hid hT2;have hq2:¬machF b vo M vt2 q6:=fun e=>(HF2.out.foot q6 (.inl e)).elim HT9.out (fun e=>by omega);have HQ2:=Lib.hid hq2;clear m2 f2 hf2 hX2 hT2 hq2 t0 t1 k1 k65;go_wp2_with fail;refine HP.out.mono ?_;rintro e w3⟨rfl,vo3,m3,f3,-,-⟩;have hX3:=HX2.out.act m3 f3;have hT3:=f3.row HT2.out HQ2.out;have HF3:=Lib.hid (frA f3 R);obtain⟨t0,t1⟩:=cells162 hT3;have HX3:=Lib.hid hX3;have HU:=Lib.hid (m3.push (show l.length≤65536 by omega) r.val);clear m3 f3 hX3 hT3;go_wp2_with fail;refine HU.out.mono ?_;rintro e w4⟨rfl,vo4,m4,f4⟩;have hX4:=HX3.out.act m4 f4;have HF4:=Lib.hid (frA f4 R);have c67:=hX4.m.o.m.cells.c67;have cf:=hX4.m.o.m.cells.fz;simp only[macV]at c67;have HX4:=Lib.hid hX4;clear m4 f4 hX4;go_wp2_with fail
 go_end0
 have hm5:=HX4.out.m.setPc (s.pc+1);have hX5:=HX4.out.act hm5 (frB w4 b vo4 M vt2 67 _);refine HΦ.out _ vo4 vt2 (by simpa using hX5) ?_;exact((HF2.out.trans HF3.out).trans HF4.out).trans (frA (frB w4 b vo4 M vt2 67 _) R)
theorem sys_tail {c:Code} (hc:tlR 5 Tryz.f121.body=some c) {x2 x3 x4 x5 x8 x9 x10 x11 x12 x13 x14 x15 x16 x17 x18 x19 x20 x21 x22 x23 x24 x25 x26 x27 x28 x29 x30 x31 x32 x33 x34 x35 x36 x37 x38 x39 x40 x41 x42 x43 x44 x45 x46 x47 x48 x49 x50 x51 x52 x53 x54 x55 x56 x57 x58 x59 x60 x61 x62 x63 x64 x65 x66 x67 x68 x69 x70 x71 x72 x73 x74 x75 x76 x77 x78 x79 x80 x81 x82 x83 x84 x85 x86 x87 x88 x89 x90:Value} {Φ:Ending→World→Prop}
 (h:MachX W b K s vo R M vt logs tou evs lg) (hh:Home w0 W (allF b vo R M vt)) (hg:GateAt w0 K.gate gr) {us:Value} {r:Rep} (hws:WsS W (allF b vo R M vt) us r.ws) (hrf:repFits r.ws=true)
 (hT:W.heap[q6]?=some (.cells #[.int .u32 r.val,us] 69 (0,0))) (hT9:¬allF b vo R M vt q6) {at_ num val:Nat} {aa:Option Addr} {args:List Nat} {ca:Nat} (hQ:W.heap[q]?=some (.cells #[.int .u32 at_,.int .u32 num,.slice aa args.length ca,.int .u32 val] 42 (0,0))) (hQ9:¬allF b vo R M vt q)
 (hua:W.ownsRow 0 25 1 (.slice aa args.length ca) args.length (encN .u32 args)) (hul:∀g,(Value.slice aa args.length ca).ownBlock=some g→¬allF b vo R M vt g)
 {l:List Nat} {y:Nat} (ho:s.ops=l++[y]) (hln:l.length≤65535) (hp9:s.pc<4294967295) (hev:evs.length≤65536)
 (hΦ:∀w' vo' vt' R',MachX w' b K {s with data:=applyN s.data r.ws,ops:=l++[r.val],pc:=s.pc+1} vo' R' M vt' logs (touL logs tou (applyT M.N r.ws)) (evs++[(⟨at_,num,args,val⟩,.slice aa args.length ca)]) lg→
  R'.replies=R.replies→R'.on=R.on→R'.log=R.log→Fr W w' (allF b vo R M vt) (allF b vo' R' M vt')→Φ (.returned (.tuple #[])) w') :
 Code.wp Tryz.prog c (bodyPost Tryz.prog Tryz.f121 Φ) ⟨#[.pointer (some ⟨b,0,none⟩),.int .u32 x,x2,x3,x4,x5,.pointer (some ⟨q6,0,none⟩),.pointer (some ⟨q,0,none⟩),x8,x9,x10,x11,x12,x13,x14,x15,x16,x17,x18,x19,x20,x21,x22,x23,x24,x25,x26,x27,x28,x29,x30,x31,x32,x33,x34,x35,x36,x37,x38,x39,x40,x41,x42,x43,x44,x45,x46,x47,x48,x49,x50,x51,x52,x53,x54,x55,x56,x57,x58,x59,x60,x61,x62,x63,x64,x65,x66,x67,x68,x69,x70,x71,x72,x73,x74,x75,x76,x77,x78,x79,x80,x81,x82,x83,x84,x85,x86,x87,x88,x89,x90],[]⟩ W:=by
 refine wp_tlR hc rfl ?_;have hmx:Tryz.prog.follows .mixedOrders=true:=by kernel_rfl
 have hbs:=run_bs60;obtain⟨ic,hic,hic0,hic1,hic2⟩:=info_parts inf62;have k75:=h.m.o.m.c75;simp only[macV]at k75;obtain⟨ea,ec,hev2,-⟩:=own_sl h.ev;obtain⟨c0,c1,c2,c3⟩:=cells62 hQ;have HX:=Lib.hid h;have HEV:=Lib.hid hev2;have HER:=Lib.hid (own_below h.ev (Below.refl W.heap.size W).drew);rw[hev2]at k75 HER;have hbl:b<W.heap.size:=h.m.lt;have hql:q<W.heap.size:=(Array.getElem?_eq_some_iff.1 hQ).1;have h63:evs.length+1≤maxLen:=by unfold maxLen;omega
 have h47:(evs.length+1)*40≤140737488355328:=by omega
 obtain⟨hcs,hbh,hbr⟩:=h.m.o.m;have HBh:=Lib.hid hbh;have HBr:=Lib.hid hbr;have hbe:∀g,(Value.slice ea evs.length ec).ownBlock=some g→g≠b:=fun g e e2=>h.m.o.m.not_own h.ev (by decide) (by rw[hev2,e,e2]);have hqe:∀g,(Value.slice ea evs.length ec).ownBlock=some g→g≠q:=fun g e e2=>hQ9 (.inr (.inl (by rw[hev2,e,e2])));have HBe:=Lib.hid hbe;have HQe:=Lib.hid hqe;have HHo:=Lib.hid hh;have HG:=Lib.hid hg;have HWs:=Lib.hid hws;have HT:=Lib.hid hT;have HQ:=Lib.hid hQ;have HO:=Lib.hid ho;have HUa:=Lib.hid hua;have HT9:=Lib.hid hT9;have HQ9:=Lib.hid hQ9;have HUl:=Lib.hid hul;have HΦ:=Lib.hid hΦ;obtain⟨ne,hne⟩:∃ne,ne=evs.length:=⟨_,rfl⟩;obtain⟨na,hna⟩:∃na,na=args.length:=⟨_,rfl⟩;rw[←hne]at k75 HER h63 h47 HBe HQe;rw[←hna]at c2;have HNE:=Lib.hid hne;have HNA:=Lib.hid hna;clear h hev2 hQ hbh hbr hbe hqe hh hg hws hT hua hT9 hQ9 hul hΦ ho hne hna;go_wp2_with fail
 go_region_law((refine step_append_grew rfl (.tmp 62) (.tmp 64) 40 rfl 42 ic (.agg #[.int .u32 0,.int .u32 0,.slice none 0 0,.int .u32 0]) 4 40 Tryz.underlying40 hic hic0 hic1 hic2 rfl (by decide) _ _ _ rfl (own_base (own_below HER.out (Bel.new _ _))) ⟨_,0,none⟩ 1 1 [_,_,_,_] rfl rfl (news_new _ #[_,_,_,_] 42) ?_ ?_ ?_ ?_;(intro u hu;simp only[List.mem_cons,List.not_mem_nil,or_false]at hu;rcases hu with rfl|rfl|rfl|rfl<;>rfl);exact h63;exact h47;intro v3 w3 hr3 hg3 hn3;have HR3:=Lib.hid hr3;have HG3:=Lib.hid hg3;have hbh3:=(hg3.1.block b (by simp;omega) (fun e=>HBe.out _ e.symm rfl)).trans ((Below.heap_alloc W.drew _ _ hbl).trans HBh.out);have z75:=(cell_of_row w3 b 75 _ _ _ hbh3).trans HBr.out.c75;have zf:=frozen_of_row w3 b 75 _ _ hbh3;have HB3:=Lib.hid hbh3;obtain⟨g3,c3',hv3,hb3,hl3⟩:=own_start hr3 (Nat.succ_pos _);subst hv3;clear hbh3 hr3 hg3 hn3))
 all_goals
  generalize hv9:Value.slice (some ⟨g3,0,none⟩) (ne+1) c3'=v9 at*;obtain⟨hX9,hF9⟩:=HX.out.grewEv (x:=(⟨at_,num,args,val⟩,.slice aa args.length ca)) (W1:=W.drew.alloc (.cells #[.int .u32 at_,.int .u32 num,.slice aa na ca,.int .u32 val] 42)) (Bel.tr (Below.refl _ _).drew (Bel.new _ _)) (by rw[HEV.out,←HNE.out];exact HG3.out) (by rw[←HNE.out];have:=HR3.out;rw[HNA.out]at this;exact this) HUa.out HUl.out;obtain⟨W4,hW4⟩:∃W4,W4=w3.setCell ⟨b,75,none⟩ v9:=⟨_,rfl⟩;rw[←hW4]at hX9 hF9⊢;have hT4:=hF9.row HT.out HT9.out;have hT94:¬allF b vo {R with events:=v9} M vt q6:=fun e=>(hF9.foot q6 e).elim HT9.out (fun e=>by have:=(Array.getElem?_eq_some_iff.1 HT.out).1;omega);clear hW4 z75 zf c0 c1 c2 c3 k75
  (try dsimp only)
  (try go_step)
  (try go_step)
  refine sys_tail2 ?_ hX9 (HHo.out.fr hF9) HG.out (HWs.out.fr hF9) hrf hT4 hT94 HO.out hln hp9 (fun w' vo' vt' hx' hf'=>HΦ.out w' vo' vt' _ hx' rfl rfl rfl (hF9.trans hf'));rfl
end
section
variable {w0 w w':World} {b:Nat} {K:MacK} {V:MacV} {s s':St} {vo vo':Value} {R:MacR} {M:MemK} {vt vt':Value} {logs:Bool} {tou tou':List (Nat×Bool)} {evs:List (Ev×Value)} {lg:List (Nat×Bool)} {gr:List (Nat×Int)}
theorem MacB.c72 (h:MacB w b K V):w.cell? ⟨b,72,none⟩=some (.bool V.on):=by
 obtain⟨cs,h,r⟩:=h;exact(cell_of_row w b 72 _ _ _ h).trans r.c72
theorem MacB.c73 (h:MacB w b K V):w.cell? ⟨b,73,none⟩=some V.log:=by
 obtain⟨cs,h,r⟩:=h;exact(cell_of_row w b 73 _ _ _ h).trans r.c73
theorem MacB.c74 (h:MacB w b K V):w.cell? ⟨b,74,none⟩=some V.replies:=by
 obtain⟨cs,h,r⟩:=h;exact(cell_of_row w b 74 _ _ _ h).trans r.c74
theorem MacB.setReplies (h:MacB w b K V) (v:Value):MacB (w.setCell ⟨b,74,none⟩ v) b K {V with replies:=v}:=by
 obtain⟨cs,h,r⟩:=h;exact⟨_,heap_setCell_same w b 74 _ _ _ h,r.setReplies v⟩
theorem MacB.setLog (h:MacB w b K V) (v:Value):MacB (w.setCell ⟨b,73,none⟩ v) b K {V with log:=v}:=by
 obtain⟨cs,h,r⟩:=h;exact⟨_,heap_setCell_same w b 73 _ _ _ h,r.setLog v⟩
theorem MachX.put {R':MacR} (h:MachX w b K s vo R M vt logs tou evs lg) {j:Nat} {v:Value} (hm:Mach (w.setCell ⟨b,j,none⟩ v) b K s' vo R' M vt logs tou) (h1:R'.events=R.events) (h2:R'.log=R.log):MachX (w.setCell ⟨b,j,none⟩ v) b K s' vo R' M vt logs tou evs lg:=by
 have hf:Fr w (w.setCell ⟨b,j,none⟩ v) (machF b vo M vt) (machF b vo M vt):=frB w b vo M vt j v;refine⟨hm,by rw[h1];exact own_fr h.ev hf h.ev_apart,fun x hx=>own_fr (h.ea x hx) hf (h.ea_apart x hx),h.eo,by rw[h2];exact own_fr h.lr hf h.lr_apart,h.ll,by rw[h2];exact h.lv⟩
theorem MachX.setReplies (h:MachX w b K s vo R M vt logs tou evs lg) (v:Value):MachX (w.setCell ⟨b,74,none⟩ v) b K s vo {R with replies:=v} M vt logs tou evs lg:=
 h.put (h.m.put (R':={R with replies:=v}) rfl (h.m.o.m.setReplies v) rfl rfl) rfl rfl
theorem MachX.flt (h:MachX w b K s vo R M vt logs tou evs lg):∀k,allF b vo R M vt k→k<w.heap.size:=by
 rintro k (((rfl|hk)|hk)|hk|hk)
 ·exact h.m.lt
 ·exact(h.m.o.o.lt k hk).2
 ·exact h.m.mem.flt k hk
 ·exact(h.ev.lt k hk).2
 ·exact(h.lr.lt k hk).2
def SysPost (w0:World) (b:Nat) (K:MacK) (s:St) (vo:Value) (R:MacR) (M:MemK) (vt:Value) (logs:Bool) (tou:List (Nat×Bool)) (evs:List (Ev×Value)) (lg:List (Nat×Bool)) (l:List Nat) (x n:Nat) (r:Rep) (rs:List Rep) (w:World) (e:Ending) (w':World):Prop:=
 e=.returned (.tuple #[])∧∃vo' vt' R' ua,MachX w' b K {s with data:=applyN s.data r.ws,ops:=l++[r.val],pc:=s.pc+1} vo' R' M vt' logs (touL logs tou (wordsT M.N s.sp n++applyT M.N r.ws)) (evs++[(⟨s.pc,x,wordsM s.data s.sp n,r.val⟩,ua)]) lg∧
  RepsS w' (allF b vo' R' M vt') R'.replies rs∧R'.on=R.on∧R'.log=R.log∧Fr w w' (allF b vo R M vt) (allF b vo' R' M vt')
theorem system_yes (h:MachX w b K s vo R M vt logs tou evs lg) (hh:Home w0 w (allF b vo R M vt)) (hg:GateAt w0 K.gate gr) {x:Nat} (hx:x<4294967296) (hs:s.sp<4294967296) (hp9:s.pc<4294967295) {l:List Nat} {y:Nat} (ho:s.ops=l++[y]) (hln:l.length≤65535) {n:Nat} (hn:grantedN gr x=some (n:Int)) (hn15:n≤15)
 {r:Rep} {rs:List Rep} (hr:RepsS w (allF b vo R M vt) R.replies (r::rs)) (hrf:repFits r.ws=true) (hev:evs.length≤65536) :
 Calls Tryz.prog 121 #[.pointer (some ⟨b,0,none⟩),.int .u32 x] w (SysPost w0 b K s vo R M vt logs tou evs lg l x n r rs w):=by
 have hmx:Tryz.prog.follows .mixedOrders=true:=by kernel_rfl
 obtain⟨gb,mp,hgv,-⟩:=id hg;have k1:=h.m.o.m.cells.c1;rw[hgv]at k1;have k65:=h.m.c65;have k68:=h.m.o.m.cells.c68;simp only[macV]at k68;have hWd:=Lib.hid (words_yes (hg.below (hh.b.drew)) (h.m.mem.below (Below.refl _ _).drew) x s.sp hx hs hn hn15);rw[hgv]at hWd;have HX:=Lib.hid h;have HH:=Lib.hid hh;have HG:=Lib.hid hg;obtain⟨av,acap,hrv,-,-,-,h4⟩:=id hr;obtain⟨rb0,ro0,us9,hav,-⟩:=h4 (by simp);rw[hrv,hav]at hr;obtain⟨rb,ro,us0,hra,hrn,hrc,hrm,⟨hrb,hrbF⟩,hrval,q0,q1,hws,hrt⟩:=hr.tail;have hrv2:R.replies=.slice (some ⟨rb,ro,none⟩) (rs.length+1) acap:=by rw[hrv,hav,hra];rfl
 have HR:=Lib.hid hrt;have HRV:=Lib.hid hrv2;have HWs:=Lib.hid hws;have hus:=hws;obtain⟨ua2,uc2,hus2,-⟩:=hus;rw[hus2]at q1;have HUS:=Lib.hid hus2;generalize r.ws.length=nws at*;obtain⟨nrs,hnrs⟩:∃nrs,nrs=rs.length:=⟨_,rfl⟩;simp only[List.length_cons]at hrc;rw[←hnrs]at hrc;have HNR:=Lib.hid hnrs;have hvo:∀g,vo.ownBlock=some g→g<w.heap.size:=fun g e=>(h.m.o.o.lt g e).2;have hro:∀g,R.events.ownBlock=some g→g<w.heap.size:=fun g e=>(h.ev.lt g e).2;have hlo:∀g,R.log.ownBlock=some g→g<w.heap.size:=fun g e=>(h.lr.lt g e).2;have HLt:=Lib.hid (And.intro h.m.lt (And.intro hvo (And.intro hro (And.intro hlo (And.intro h.m.mem.plt h.m.mem.glt)))));have hcap9:acap≤9223372036854775807:=by unfold maxLen at hrm;omega
 clear h hh hg hr hrv hav h4 hra hrt hrv2 hws hus2 hnrs hvo hro hlo;go_enter Tryz.func121,Tryz.ntmps121;go_wp2_with fail
 first|(go_region_held3(fun W=>W.cell? ⟨b,1,none⟩=some (.pointer (some ⟨gb,0,none⟩))∧W.cell? ⟨b,65,none⟩=some (.pointer (some ⟨M.p,0,none⟩))∧W.cell? ⟨b,68,none⟩=some (.int .u32 s.sp))
  (first|assumption|exact⟨by assumption,by assumption,by assumption⟩)
  ((go_at_call 66; refine hWd.out.mono ?_; rintro e w1 ⟨vt1, vw, rfl, hrow, hmem, hfr⟩; have hfr0 : Fr w w1 (memF M.p M.g vt) (wF M.p M.g vt1 vw) := ((Fr.refl w _).drew).trans hfr; have hX1 := HX.out.act (HX.out.m.liftM hmem hfr0) (hfr0.mono (G := machF b vo M vt) (G1 := machF b vo M vt1) (fun i e => .inr e) (fun i e => e.elim (fun e2 => .inl (.inl e2)) (fun e2 => .inr (.inl e2)))); have y1 := hX1.m.o.m.cells.c1; rw [hgv] at y1; have y65 := hX1.m.c65; have y68 := hX1.m.o.m.cells.c68; simp only [macV] at y68; have HX1 := Lib.hid hX1; have HRow := Lib.hid hrow; have HF1 := Lib.hid hfr0; clear hrow hmem hfr hfr0 hX1))) | fail "held"
 have hF1:Fr w w1 (allF b vo R M vt) (allF b vo R M vt1):=frA (HF1.out.mono (G:=machF b vo M vt) (G1:=machF b vo M vt1) (fun i e=>.inr e) (fun i e=>e.elim (fun e2=>.inl (.inl e2)) (fun e2=>.inr (.inl e2)))) R;have hH1:=HH.out.fr hF1
 have hva:∀g,vw.ownBlock=some g→¬allF b vo R M vt1 g:=fun g hg hf=>by
  have h1:=(HRow.out.lt g hg).1;have h2:w.heap.size≤g:=h1;obtain⟨i1,i2,i3,i4,i5,i6⟩:=HLt.out;rcases hf with((rfl|hf)|rfl|rfl|hf)|hf|hf
  ·omega
  ·have:=i2 g hf;omega
  ·omega
  ·omega
  ·exact own_apart (own_base HRow.out) HX1.out.m.mem.tr (by decide) g hg hf
  ·have:=i3 g hf;omega
  ·have:=i4 g hf;omega
 have HVA:=Lib.hid hva;have HHo1:=Lib.hid hH1;have HFr1:=Lib.hid hF1;have p0:=(hF1.cell (p:=⟨rb,ro,none⟩) hrb hrbF).trans q0;have p1:=(hF1.cell (p:=⟨rb,ro+1,none⟩) hrb hrbF).trans q1;have k74:=HX1.out.m.o.m.c74;have cf:=HX1.out.m.o.m.cells.fz;simp only[macV]at k74;rw[HRV.out,←HNR.out]at k74;have hbl:b<w1.heap.size:=HX1.out.m.lt;have hrb1:rb<w1.heap.size:=Nat.lt_of_lt_of_le hrb hF1.size;have hrbb:rb≠b:=fun e=>hrbF (.inl (.inl (.inl e)));have hi0:(0:Int)<(nrs:Int)+1:=by omega
 have hi1:(1:Int)≤(nrs:Int)+1:=by omega
 have hi2:(nrs:Int)+1≤(acap:Int):=by omega
 have hi3:nrs+1≤acap:=hrc;clear hF1 hH1 hva q0 q1 k1 k65 k68 y1 y65 y68;go_wp2_with fail
 all_goals
  obtain⟨vrt,hvrt⟩:∃v,v=(if acap=1 then Value.slice (some ⟨rb,ro,none⟩) nrs 0 else Value.slice (some ⟨rb,ro+2,none⟩) nrs (acap - 1)):=⟨_,rfl⟩
  have HRT:RepsS w (allF b vo R M vt) vrt rs:=by
   rw[hvrt];by_cases h1:acap=1
   ·have e9:rs=[]:=by(have:=HNR.out;apply List.eq_nil_of_length_eq_zero;omega)
    subst e9;have e8:nrs=0:=HNR.out;rw[if_pos h1,e8];exact⟨_,_,rfl,Nat.le_refl _,Nat.zero_le _,by simp,by simp⟩
   ·rw[if_neg h1,HNR.out];exact HR.out
  first
   | (have hA:Value.slice (some ⟨rb,ro+2,none⟩) nrs (acap - 1)=vrt:=(by rw[hvrt,if_neg (by assumption)])
      rw[hA])
   | (have hA:Value.slice (some ⟨rb,ro,none⟩) nrs 0=vrt:=(by rw[hvrt,if_pos (by assumption)])
      rw[hA])
  have HRTh:=Lib.hid HRT;clear hvrt;obtain⟨W4,hW4⟩:∃W4,W4=(w1.setCell ⟨b,74,none⟩ vrt).alloc (.cells #[.int .u32 r.val,.slice ua2 nws uc2] 69):=⟨_,rfl⟩;have hszc:(w1.setCell ⟨b,74,none⟩ vrt).heap.size=w1.heap.size:=by simp[World.setCell]
  have hh4:W4.heap[w1.heap.size]?=some (.cells #[.int .u32 r.val,.slice ua2 nws uc2] 69 (0,0)):=by rw[hW4,←hszc];exact heap_alloc_new _ _
  have hX4:MachX W4 b K s vo {R with replies:=vrt} M vt1 logs (touL logs tou (wordsT M.N s.sp n)) evs lg:=by rw[hW4];exact(HX1.out.setReplies vrt).below (Bel.new _ _)
  have hF14:Fr w1 W4 (allF b vo R M vt1) (allF b vo {R with replies:=vrt} M vt1):=by rw[hW4];exact((Fr.setCell w1 (F:=allF b vo R M vt1) (a:=⟨b,74,none⟩) (.inl (.inl (.inl rfl))) vrt).trans (Fr.of (Bel.new _ _) _))
  have hH4:=HHo1.out.fr hF14;have hrow4:W4.ownsRow 0 25 1 vw n (encN .u32 (wordsM s.data s.sp n)):=own_fr (own_base HRow.out) hF14 (fun g e=>HVA.out g e);rw[←hW4];clear hW4 HRT p0 p1 k74 cf hszc;have k1:=hX4.m.o.m.cells.c1;rw[hgv]at k1;have k67:=hX4.m.o.m.cells.c67;simp only[macV]at k67;obtain⟨t0,t1⟩:=cells162 hh4;have HX4:=Lib.hid hX4;have HF4:=Lib.hid (HFr1.out.trans hF14);have HH4:=Lib.hid hH4;have HT4:=Lib.hid hh4;have hl4:w1.heap.size<W4.heap.size:=(Array.getElem?_eq_some_iff.1 hh4).1;have hb4:b<W4.heap.size:=hX4.m.lt;have HWs4:=Lib.hid (HWs.out.fr HF4.out);have HEv:=Lib.hid (fun W (hW:Below W4.heap.size W4 W)=>event_any (w:=W) (v:=K.gate) (gr:=gr) (at_:=s.pc) (val:=r.val) (HG.out.below (Bel.tr hH4.b hW)) hx hn (own_below hrow4 hW) (wordsM_length _ _ _) hn15 (HWs4.out.at_.below hW) hrf);rw[hgv,HUS.out]at HEv;have HRoB:=Lib.hid (And.intro (fun g e=>(hX4.ev.lt g e).2:∀g,R.events.ownBlock=some g→g<W4.heap.size) hX4.m.lt);clear hX4 hF14 hH4 hrow4 hh4;have hH9:(W4.drew.cell? ⟨b,1,none⟩=some (.pointer (some ⟨gb,0,none⟩))∧W4.drew.cell? ⟨b,67,none⟩=some (.int .u32 s.pc))∧(W4.drew.cell? ⟨w1.heap.size,0,none⟩=some (.int .u32 r.val)∧W4.drew.cell? ⟨w1.heap.size,1,none⟩=some (.slice ua2 nws uc2)):=⟨⟨k1,k67⟩,⟨t0,t1⟩⟩;have HKp:=Lib.hid (fun (W W':World) (hs:W4.heap.size≤W.heap.size) (h:(W.cell? ⟨b,1,none⟩=some (.pointer (some ⟨gb,0,none⟩))∧W.cell? ⟨b,67,none⟩=some (.int .u32 s.pc))∧(W.cell? ⟨w1.heap.size,0,none⟩=some (.int .u32 r.val)∧W.cell? ⟨w1.heap.size,1,none⟩=some (.slice ua2 nws uc2))) (hb:Below W.heap.size W W')=>(⟨⟨(hb.cell (p:=⟨b,1,none⟩) (Nat.lt_of_lt_of_le hb4 hs)).trans h.1.1,(hb.cell (p:=⟨b,67,none⟩) (Nat.lt_of_lt_of_le hb4 hs)).trans h.1.2⟩,⟨(hb.cell (p:=⟨w1.heap.size,0,none⟩) (Nat.lt_of_lt_of_le hl4 hs)).trans h.2.1,(hb.cell (p:=⟨w1.heap.size,1,none⟩) (Nat.lt_of_lt_of_le hl4 hs)).trans h.2.2⟩⟩:(W'.cell? ⟨b,1,none⟩=some (.pointer (some ⟨gb,0,none⟩))∧W'.cell? ⟨b,67,none⟩=some (.int .u32 s.pc))∧(W'.cell? ⟨w1.heap.size,0,none⟩=some (.int .u32 r.val)∧W'.cell? ⟨w1.heap.size,1,none⟩=some (.slice ua2 nws uc2))));refine wp_region_held_drew (S:=(fun W=>(W.cell? ⟨b,1,none⟩=some (.pointer (some ⟨gb,0,none⟩))∧W.cell? ⟨b,67,none⟩=some (.int .u32 s.pc))∧(W.cell? ⟨w1.heap.size,0,none⟩=some (.int .u32 r.val)∧W.cell? ⟨w1.heap.size,1,none⟩=some (.slice ua2 nws uc2)))) hmx hH9 (fun hHeld=>?_);refine tk 0 hHeld ?_;refine tk 1 hHeld ?_;refine tk 2 hHeld ?_;refine tk 3 hHeld ?_;refine tk 4 hHeld ?_;refine tk 5 hHeld ?_;refine tk 6 hHeld ?_;refine tk 7 hHeld ?_;refine tk 8 hHeld ?_;refine tk 9 hHeld ?_;refine tk 10 hHeld ?_;refine wpAnyH_ready (rs:=[11,15]) (by kernel_rfl) (by simp) (AllReadyH.cons rfl (fun K hK=>?_) (AllReadyH.cons rfl (fun K hK=>?_) AllReadyH.nil))
  ·go_simp
   refine(HEv.out W4.drew (Below.refl _ _).drew).mono ?_;rintro e w5⟨va,rfl,hown,hb5⟩;obtain⟨aa,ca,hva2,-⟩:=own_sl hown;subst hva2;have hB5:Below W4.heap.size W4 w5:=Bel.tr (Below.refl W4.heap.size W4).drew hb5;have hH5:=HKp.out W4.drew w5 (Nat.le_refl _) hHeld hb5;refine hK.out _ _ hH5 (fun _=>?_);clear hK K
   try simp only[Act.put,aT,aZ,aS]
   refine tk 12 hH5 ?_;refine tk 13 hH5 ?_;refine tk 14 hH5 ?_;refine rd 15 _ fun K hK=>?_;go_simp;have hb6:=Bel.new w5 (.cells #[.int .u32 0,.int .u32 0,.slice none 0 0,.int .u32 0] 42);have hH6:=HKp.out w5 _ hB5.size hH5 hb6;refine hK.out _ _ hH6 (fun _=>?_);clear hK K
   try simp only[Act.put,aT,aZ,aS]
   have hr6:(w5.alloc (.cells #[.int .u32 0,.int .u32 0,.slice none 0 0,.int .u32 0] 42)).heap[w5.heap.size]?=_:=heap_alloc_new w5 _;obtain⟨W6,hW6⟩:∃W6,W6=w5.alloc (.cells #[.int .u32 0,.int .u32 0,.slice none 0 0,.int .u32 0] 42):=⟨_,rfl⟩;rw[←hW6]at hr6 hH6 hb6⊢;have hO6:=own_below hown hb6;have hB6:=Bel.tr hB5 hb6;obtain⟨q,hq⟩:∃q,q=w5.heap.size:=⟨_,rfl⟩;rw[←hq]at hr6⊢;have hq4:W4.heap.size≤q:=by rw[hq];exact hB5.size
   have hqo:∀g,(Value.slice aa (wordsM s.data s.sp n).length ca).ownBlock=some g→g≠q:=fun g e=>by have:=(hown.lt g e).2;omega
   have hOl:∀g,(Value.slice aa (wordsM s.data s.sp n).length ca).ownBlock=some g→W4.heap.size≤g:=fun g e=>(hown.lt g e).1;clear hW6 hb6 hown hb5 hB5 hq hH5;have hrow7:(W6.setRow q #[.int .u32 s.pc,.int .u32 x,.slice aa (wordsM s.data s.sp n).length ca,.int .u32 r.val]).heap[q]?=some (.cells #[.int .u32 s.pc,.int .u32 x,.slice aa (wordsM s.data s.sp n).length ca,.int .u32 r.val] 42 (0,0)):=setRow_heap _ _ _ _ _ _ hr6;have hB7:Below W4.heap.size W4 (W6.setRow q #[.int .u32 s.pc,.int .u32 x,.slice aa (wordsM s.data s.sp n).length ca,.int .u32 r.val]):=below_setRow hB6 _ hq4 _
   have hO7:(W6.setRow q #[.int .u32 s.pc,.int .u32 x,.slice aa (wordsM s.data s.sp n).length ca,.int .u32 r.val]).ownsRow 0 25 1 (.slice aa (wordsM s.data s.sp n).length ca) (wordsM s.data s.sp n).length (encN .u32 (wordsM s.data s.sp n)):=by
    have h0:=own_base hO6;rcases h0.2 with⟨e1,e2⟩|⟨g',cap',cur,e1,hbb,hg',rest⟩
    ·exact⟨h0.1,.inl ⟨e1,e2⟩⟩
    ·exact⟨h0.1,.inr ⟨g',cap',cur,e1,hbb,(setRow_other _ _ _ _ (hqo g' (by rw[e1];rfl))).trans hg',rest⟩⟩
   have hH7:=HKp.out W4 (W6.setRow q #[.int .u32 s.pc,.int .u32 x,.slice aa (wordsM s.data s.sp n).length ca,.int .u32 r.val]) (Nat.le_refl _) hHeld hB7;refine rd 16 _ fun K hK=>?_;rw[if_pos (by rfl)];refine outs_wp (R:=fun v W'=>v=undef∧W'=W6.setRow q #[.int .u32 s.pc,.int .u32 x,.slice aa (wordsM s.data s.sp n).length ca,.int .u32 r.val]) (outs_store_row 42 (.tmp 7) (.tmp 56) rfl q _ rfl rfl 42 _ hr6 info62 (by rfl) (by simp[Value.oneCell']) ⟨rfl,rfl⟩) ?_;rintro _ _⟨rfl,rfl⟩;refine hK.out _ _ hH7 (fun _=>?_);clear hK K
   try simp only[Act.put,aT,aZ,aS]
   refine tk 17 hH7 ?_;refine wpAnyH_done (by kernel_rfl) ?_ _;obtain⟨W7,hW7⟩:∃W7,W7=W6.setRow q #[.int .u32 s.pc,.int .u32 x,.slice aa (wordsM s.data s.sp n).length ca,.int .u32 r.val]:=⟨_,rfl⟩;rw[←hW7]at hrow7 hB7 hO7 hH7⊢;clear hW7 hr6 hO6 hB6 hH6 hqo hHeld hH9;have hX7:=HX4.out.below hB7;have hT7:=(hB7.block _ hl4).trans HT4.out;have hQ7:¬allF b vo {R with replies:=vrt} M vt1 q:=fun e=>by have:=HX4.out.flt q e;omega
   have hT97:¬allF b vo {R with replies:=vrt} M vt1 w1.heap.size:=fun e=>by have:=HX1.out.flt w1.heap.size e;omega
   have hH47:=HH4.out.fr (Fr.of hB7 _);have hU7:∀g,(Value.slice aa (wordsM s.data s.sp n).length ca).ownBlock=some g→¬allF b vo {R with replies:=vrt} M vt1 g:=fun g e e2=>by have h1:=HX4.out.flt g e2;have h2:=hOl g e;omega
   have hws7:WsS W7 (allF b vo {R with replies:=vrt} M vt1) (.slice ua2 nws uc2) r.ws:=by rw[←HUS.out];exact HWs4.out.fr (Fr.of hB7 _)
   have HF47:=Lib.hid (HF4.out.trans (Fr.of hB7 _));clear hB7 hOl hH7 k1 k67 t0 t1
   (try dsimp only)
   (try go_step)
   (try go_step)
   refine sys_tail ?_ hX7 hH47 HG.out hws7 hrf hT7 hT97 hrow7 hQ7 hO7 hU7 ho hln hp9 hev (fun w' vo' vt' R' hx' e1 e2 e3 hf'=>?_)
   ·rfl
   refine⟨rfl,vo',vt',R',_,by rw[touL_touL]at hx';exact hx',by rw[e1];exact HRTh.out.fr (HF47.out.trans hf'),e2,e3,HF47.out.trans hf'⟩
  ·go_simp
   have hb6:=(Bel.new W4 (.cells #[.int .u32 0,.int .u32 0,.slice none 0 0,.int .u32 0] 42)).drew;have hH6a:=HKp.out W4 _ (Nat.le_refl _) hHeld hb6;refine hK.out _ _ hH6a (fun _=>?_);clear hK K
   try simp only[Act.put,aT,aZ,aS]
   have hr6a:((W4.alloc (.cells #[.int .u32 0,.int .u32 0,.slice none 0 0,.int .u32 0] 42)).drew).heap[W4.heap.size]?=_:=heap_alloc_new W4 _;obtain⟨W5,hW5⟩:∃W5,W5=(W4.alloc (.cells #[.int .u32 0,.int .u32 0,.slice none 0 0,.int .u32 0] 42)).drew:=⟨_,rfl⟩;rw[←hW5]at hr6a hH6a hb6⊢;have hB5:Below W4.heap.size W4 W5:=hb6;clear hW5 hb6;refine rd 11 _ fun K hK=>?_;go_simp;refine(HEv.out W5 hB5).mono ?_;rintro e W6⟨va,rfl,hown,hb5⟩;obtain⟨aa,ca,hva2,-⟩:=own_sl hown;subst hva2;have hH6:=HKp.out W5 W6 hB5.size hH6a hb5;refine hK.out _ _ hH6 (fun _=>?_);clear hK K
   try simp only[Act.put,aT,aZ,aS]
   refine tk 12 hH6 ?_;refine tk 13 hH6 ?_;refine tk 14 hH6 ?_;obtain⟨q,hq⟩:∃q,q=W4.heap.size:=⟨_,rfl⟩;have hl5:=(Array.getElem?_eq_some_iff.1 hr6a).1;have hr6:=(hb5.block _ hl5).trans hr6a;rw[←hq]at hr6⊢;have hO6:=hown;have hB6:=Bel.tr hB5 hb5;have hq4:W4.heap.size≤q:=by omega
   have hqo:∀g,(Value.slice aa (wordsM s.data s.sp n).length ca).ownBlock=some g→g≠q:=fun g e=>by have:=(hown.lt g e).1;omega
   have hOl:∀g,(Value.slice aa (wordsM s.data s.sp n).length ca).ownBlock=some g→W4.heap.size≤g:=fun g e=>Nat.le_trans hB5.size (hown.lt g e).1;clear hown hb5 hB5 hr6a hl5 hq hH6a;have hrow7:(W6.setRow q #[.int .u32 s.pc,.int .u32 x,.slice aa (wordsM s.data s.sp n).length ca,.int .u32 r.val]).heap[q]?=some (.cells #[.int .u32 s.pc,.int .u32 x,.slice aa (wordsM s.data s.sp n).length ca,.int .u32 r.val] 42 (0,0)):=setRow_heap _ _ _ _ _ _ hr6;have hB7:Below W4.heap.size W4 (W6.setRow q #[.int .u32 s.pc,.int .u32 x,.slice aa (wordsM s.data s.sp n).length ca,.int .u32 r.val]):=below_setRow hB6 _ hq4 _
   have hO7:(W6.setRow q #[.int .u32 s.pc,.int .u32 x,.slice aa (wordsM s.data s.sp n).length ca,.int .u32 r.val]).ownsRow 0 25 1 (.slice aa (wordsM s.data s.sp n).length ca) (wordsM s.data s.sp n).length (encN .u32 (wordsM s.data s.sp n)):=by
    have h0:=own_base hO6;rcases h0.2 with⟨e1,e2⟩|⟨g',cap',cur,e1,hbb,hg',rest⟩
    ·exact⟨h0.1,.inl ⟨e1,e2⟩⟩
    ·exact⟨h0.1,.inr ⟨g',cap',cur,e1,hbb,(setRow_other _ _ _ _ (hqo g' (by rw[e1];rfl))).trans hg',rest⟩⟩
   have hH7:=HKp.out W4 (W6.setRow q #[.int .u32 s.pc,.int .u32 x,.slice aa (wordsM s.data s.sp n).length ca,.int .u32 r.val]) (Nat.le_refl _) hHeld hB7;refine rd 16 _ fun K hK=>?_;rw[if_pos (by rfl)];refine outs_wp (R:=fun v W'=>v=undef∧W'=W6.setRow q #[.int .u32 s.pc,.int .u32 x,.slice aa (wordsM s.data s.sp n).length ca,.int .u32 r.val]) (outs_store_row 42 (.tmp 7) (.tmp 56) rfl q _ rfl rfl 42 _ hr6 info62 (by rfl) (by simp[Value.oneCell']) ⟨rfl,rfl⟩) ?_;rintro _ _⟨rfl,rfl⟩;refine hK.out _ _ hH7 (fun _=>?_);clear hK K
   try simp only[Act.put,aT,aZ,aS]
   refine tk 17 hH7 ?_;refine wpAnyH_done (by kernel_rfl) ?_ _;obtain⟨W7,hW7⟩:∃W7,W7=W6.setRow q #[.int .u32 s.pc,.int .u32 x,.slice aa (wordsM s.data s.sp n).length ca,.int .u32 r.val]:=⟨_,rfl⟩;rw[←hW7]at hrow7 hB7 hO7 hH7⊢;clear hW7 hr6 hO6 hB6 hH6 hqo hHeld hH9;have hX7:=HX4.out.below hB7;have hT7:=(hB7.block _ hl4).trans HT4.out;have hQ7:¬allF b vo {R with replies:=vrt} M vt1 q:=fun e=>by have:=HX4.out.flt q e;omega
   have hT97:¬allF b vo {R with replies:=vrt} M vt1 w1.heap.size:=fun e=>by have:=HX1.out.flt w1.heap.size e;omega
   have hH47:=HH4.out.fr (Fr.of hB7 _);have hU7:∀g,(Value.slice aa (wordsM s.data s.sp n).length ca).ownBlock=some g→¬allF b vo {R with replies:=vrt} M vt1 g:=fun g e e2=>by have h1:=HX4.out.flt g e2;have h2:=hOl g e;omega
   have hws7:WsS W7 (allF b vo {R with replies:=vrt} M vt1) (.slice ua2 nws uc2) r.ws:=by rw[←HUS.out];exact HWs4.out.fr (Fr.of hB7 _)
   have HF47:=Lib.hid (HF4.out.trans (Fr.of hB7 _));clear hB7 hOl hH7 k1 k67 t0 t1
   (try dsimp only)
   (try go_step)
   (try go_step)
   refine sys_tail ?_ hX7 hH47 HG.out hws7 hrf hT7 hT97 hrow7 hQ7 hO7 hU7 ho hln hp9 hev (fun w' vo' vt' R' hx' e1 e2 e3 hf'=>?_)
   ·rfl
   refine⟨rfl,vo',vt',R',_,by rw[touL_touL]at hx';exact hx',by rw[e1];exact HRTh.out.fr (HF47.out.trans hf'),e2,e3,HF47.out.trans hf'⟩
end
section
variable {w0 w w':World} {b:Nat} {K:MacK} {s s':St} {vo vo':Value} {R:MacR} {M:MemK} {vt vt':Value} {logs:Bool} {tou tou':List (Nat×Bool)} {evs:List (Ev×Value)} {lg:List (Nat×Bool)} {gr:List (Nat×Int)}
theorem system_no (h:Mach w b K s vo R M vt logs tou) (hb0:Below w0.heap.size w0 w) (hg:GateAt w0 K.gate gr) {x:Nat} (hx:x<4294967296) (hn:grantedN gr x=none) :
 Calls Tryz.prog 121 #[.pointer (some ⟨b,0,none⟩),.int .u32 x] w fun e w'=>e=.panicked (fltV 8)∧Below w.heap.size w w':=by
 have hmx:Tryz.prog.follows .mixedOrders=true:=by kernel_rfl
 obtain⟨gb,mp,hgv,-⟩:=id hg;have k1:=h.o.m.cells.c1;rw[hgv]at k1;have k65:=h.c65;have k68:=h.o.m.cells.c68;simp only[macV]at k68;have hWd:=Lib.hid (fun vm=>words_no (hg.below hb0.drew) x s.sp hx hn vm);rw[hgv]at hWd;clear h hg;go_enter Tryz.func121,Tryz.ntmps121;go_wp2_with fail
 first|(go_region_held3(fun W=>W.cell? ⟨b,1,none⟩=some (.pointer (some ⟨gb,0,none⟩))∧W.cell? ⟨b,65,none⟩=some (.pointer (some ⟨M.p,0,none⟩))∧W.cell? ⟨b,68,none⟩=some (.int .u32 s.sp))
  (first|assumption|exact⟨by assumption,by assumption,by assumption⟩)
  ((go_at_call 66; refine (hWd.out _).mono ?_; rintro e w1 ⟨rfl, rfl⟩))) | fail "held"
 go_wp2_with fail;exact⟨rfl,rfl,(Below.refl _ _).drew⟩
theorem call_sys {l:List Nat} {y:Nat} (h:Mach w b K s vo R M vt logs tou) (ho:s.ops=l++[y]) (hn:l.length≤65535) (hy:2147483648≤y) (hy9:y<4294967296) (o a:Nat) {Φ:Ending→World→Prop}
 (HS:∀W,Below w.heap.size w W→Calls Tryz.prog 121 #[.pointer (some ⟨b,0,none⟩),.int .u32 (4294967295 - y:Nat)] W fun e w'=>(e=.returned (.tuple #[])∨∃c,e=.panicked c)∧Φ e w') :
 Calls Tryz.prog 75 #[.pointer (some ⟨b,0,none⟩),.agg #[.int .u8 o,.int .u32 a]] w Φ:=by
 have hmx:Tryz.prog.follows .mixedOrders=true:=by kernel_rfl
 obtain⟨W1,hW1⟩:∃W1,W1=w.alloc (.cells #[.int .u8 o,.int .u32 a] 106):=⟨_,rfl⟩;have hb1:Below w.heap.size w W1:=by rw[hW1];exact Bel.new _ _
 obtain⟨g,cap,hv,k0⟩:=(h.below hb1).top1 ho;have c69:=(h.below hb1).o.m.cells.c69;simp only[macV]at c69;rw[hv]at c69;generalize l.length=n at*;have e1:(((n+1:Nat):Int)) - 1=(n:Int):=by omega
 have w1:IntKind.i64.wrap (n:Int)=(n:Int):=IntWalk.i64_in _ (by omega);have hlt1:(n:Int)<(n:Int)+1:=by omega
 have hlt2:n<n+1:=by omega
 have hn1:(0:Int)≤(n:Int):=by omega
 have HG:=Lib.hid (fun W=>gnumber_any y hy9 W);rw[if_pos hy,decide_eq_true hy]at HG;generalize 4294967295 - y=x at*;have HB1:=Lib.hid hb1;have HSh:=Lib.hid HS;clear h ho hv hb1 HS;go_enter Tryz.func75,Tryz.ntmps75;go_wp2_with fail;rw[←hW1];clear hW1
 go_quiet(fail)
 have hb2:Below w.heap.size w (W1.drewN nq):=below_drewN HB1.out nq;clear c69 k0;obtain⟨W2,hW2⟩:∃W2,W2=W1.drewN nq:=⟨_,rfl⟩;rw[←hW2]at hb2⊢;have HS2:=Lib.hid (HSh.out W2 hb2);clear hW2 hb2;go_wp2_with fail;refine(HG.out _).mono ?_;rintro e W3⟨rfl,rfl⟩;go_wp2_with fail;refine HS2.out.mono ?_;rintro e w9⟨rfl|⟨ch,rfl⟩,hΦ⟩
 ·have HΦ:=Lib.hid hΦ
  clear hΦ;go_wp2_with fail;refine bodyPost_ret (v:=.tuple #[]) (results_none Tryz.results75 _ _ _) rfl ?_;exact HΦ.out
 ·exact⟨rfl,hΦ⟩
end
theorem touN_in {z a n:Nat} {w:Bool} (hz:0<z):∀t∈touN z a n w,t.1<z:=by
 intro t ht;unfold touN at ht;obtain⟨i,_,rfl⟩:=List.mem_map.1 ht;exact Nat.mod_lt _ hz
def TouIn (m:Mo) (x:St×List (Nat×Bool)):Prop:=∀t∈x.2,t.1<m.size
theorem TouIn.ite {m:Mo} {c:Prop} [Decidable c] {x y:St×List (Nat×Bool)} (h1:TouIn m x) (h2:TouIn m y):TouIn m (if c then x else y):=by
 split
 ·exact h1
 ·exact h2
theorem TouIn.nil {m:Mo} (s:St):TouIn m (s,[]):=fun t ht=>by cases ht
theorem TouIn.one {m:Mo} (hz:0<m.size) (s:St) (a n:Nat) (w:Bool):TouIn m (s,touN m.size a n w):=touN_in hz
theorem TouIn.two {m:Mo} (hz:0<m.size) (s:St) (a n b k:Nat) (w v:Bool):TouIn m (s,touN m.size a n w++touN m.size b k v):=fun t ht=>by
 rcases List.mem_append.1 ht with h|h<;>exact touN_in hz _ h
theorem actM_in (m:Mo) (o a:Nat) (s:St) (hz:0<m.size):TouIn m (actM m o a s):=by
 unfold actM leaveM callM
 repeat' (first|exact TouIn.nil _|exact TouIn.one hz _ _ _ _|exact TouIn.two hz _ _ _ _ _ _ _|refine TouIn.ite ?_ ?_)
theorem stepM_in (m:Mo) (gr:List (Nat×Int)) (reps:List Rep) (s:St) (hz:0<m.size):∀t∈(stepM m gr reps s).tou,t.1<m.size:=by
 unfold stepM
 split
 ·exact actM_in _ _ _ _ hz
 ·split
  ·intro t ht
   rcases List.mem_append.1 ht with h|h
   ·unfold wordsT at h
    obtain⟨i,_,h⟩:=List.mem_flatMap.1 h;exact touN_in hz _ h
   ·unfold applyT at h
    obtain⟨i,_,h⟩:=List.mem_flatMap.1 h;exact touN_in hz _ h
  ·intro t ht;cases ht
theorem goM_in (m:Mo) (gr:List (Nat×Int)) (hz:0<m.size):∀(f:Nat) (reps:List Rep) (s:St),∀t∈(goM m gr f reps s).tou,t.1<m.size
 | 0,_,_,t,ht=>by cases ht
 | f+1,reps,s,t,ht=>by
  rw[goM]at ht
  split at ht
  ·rcases List.mem_append.1 ht with h|h
   ·exact stepM_in m gr reps s hz t h
   ·exact goM_in m gr hz f _ _ t h
  ·cases ht
def EvOk (gr:List (Nat×Int)) (reps:List Rep) (ev:List Ev):Prop:=
 ∀(i:Nat) (e:Ev),ev[i]?=some e→(∃g∈gr,g.1=e.num∧g.2=(e.args.length:Int))∧∃r,reps[i]?=some r∧e.val=r.val
theorem granted_mem {gr:List (Nat×Int)} {x:Nat} {n:Int} (h:grantedN gr x=some n):(x,n)∈gr:=by
 unfold grantedN at h;cases hf:gr.find? (fun g=>g.1==x)with
 | none=>rw[hf]at h;cases h
 | some g=>
  rw[hf]at h;have h1:=List.mem_of_find?_eq_some hf;have h2:=List.find?_some hf;simp only[Option.map_some,Option.some.injEq]at h;simp only[beq_iff_eq]at h2;subst h h2;exact h1
theorem stepM_ev (m:Mo) (gr:List (Nat×Int)) (hg:∀g∈gr,0≤g.2) (reps:List Rep) (s:St) :
 ((stepM m gr reps s).ev=[]∧(stepM m gr reps s).reps=reps)∨
 ∃(e:Ev) (r:Rep) (rs:List Rep),(stepM m gr reps s).ev=[e]∧reps=r::rs∧(stepM m gr reps s).reps=rs∧e.val=r.val∧∃g∈gr,g.1=e.num∧g.2=(e.args.length:Int):=by
 unfold stepM
 split
 ·exact .inl ⟨rfl,rfl⟩
 ·rename_i x hx
  split
  ·rename_i n r rs hn
   refine .inr ⟨_,r,rs,rfl,rfl,rfl,rfl,(x,n),granted_mem hn,rfl,?_⟩;have:=hg _ (granted_mem hn);simp only at this;simp only[wordsM,List.length_map,List.length_range];omega
  ·exact .inl ⟨rfl,rfl⟩
theorem goM_ev (m:Mo) (gr:List (Nat×Int)) (hg:∀g∈gr,0≤g.2):∀(f:Nat) (reps:List Rep) (s:St),
 (goM m gr f reps s).reps=reps.drop (goM m gr f reps s).ev.length∧(goM m gr f reps s).ev.length≤reps.length∧EvOk gr reps (goM m gr f reps s).ev∧(goM m gr f reps s).ev.length≤(goM m gr f reps s).used
 | 0,reps,s=>⟨rfl,Nat.zero_le _,fun i e h=>by simp[goM]at h,Nat.le_refl _⟩
 | f+1,reps,s=>by
  rw[goM]
  split
  ·have IH:=goM_ev m gr hg f (stepM m gr reps s).reps (stepM m gr reps s).st
   have SE:=stepM_ev m gr hg reps s;generalize stepM m gr reps s=p at*;generalize goM m gr f p.reps p.st=q at*;obtain⟨i1,i2,i3,i4⟩:=IH;unfold GoR.behind;simp only;rcases SE with⟨h1,h2⟩|⟨e,r,rs,h1,h2,h3,h4,h5⟩
   ·rw[h2]at i1 i2 i3
    rw[h1,List.nil_append];exact⟨i1,i2,i3,by omega⟩
   ·rw[h3]at i1 i2 i3
    rw[h1,h2];refine⟨by simpa using i1,by simpa using i2,fun i e' he=>?_,by simp;omega⟩;cases i with
    | zero=>
     simp only[List.cons_append,List.getElem?_cons_zero,Option.some.injEq]at he;subst he;exact⟨h5,r,rfl,h4⟩
    | succ i=>
     simp only[List.cons_append,List.nil_append,List.getElem?_cons_succ]at he;obtain⟨k1,r',k2,k3⟩:=i3 i e' he;exact⟨k1,r',by simpa using k2,k3⟩
  ·exact⟨rfl,Nat.zero_le _,fun i e h=>by simp at h,Nat.le_refl _⟩
theorem goM_one (m:Mo) (gr:List (Nat×Int)) (f:Nat) (reps:List Rep) (s:St) (h1:s.life=1):(waitsM m gr reps s=none∧1≤(goM m gr (f+1) reps s).used)∨
 (waitsM m gr reps s≠none∧goM m gr (f+1) reps s=⟨s,[],[],reps,0,waitsM m gr reps s⟩):=by
 by_cases h:waitsM m gr reps s=none
 ·refine .inl ⟨h,?_⟩
  rw[goM,if_pos ⟨h1,h⟩]
  show 1≤_+1
  omega
 ·refine .inr ⟨h,?_⟩
  rw[goM,if_neg (fun c=>h c.2),if_pos h1]
def actF (o:Nat):Nat:=
 if o≤12 then 70+o else if o≤28 then 91 else if o≤35 then 54+o else if isUnOp o then 90 else 92
structure Stat (w0:World) (K:MacK) (mb:Nat) (m:Img) (gr:List (Nat×Int)):Prop where
 mod:MAt w0 mb m
 md:K.md=.pointer (some ⟨mb,0,none⟩)
 gate:GateAt w0 K.gate gr
 code:w0.ownsRow 0 106 2 K.code m.code.length (encI m.code)
 acts:∀i,1≤i→i<60→K.acts i=.func (.func (actF i)) #[] #[]
 floor:K.floor=2 ^ (moOf m).k - m.stack
 top:K.top=(moOf m).top
structure Wf (s:St):Prop where
 ops:∀x∈s.ops,x<4294967296
 sp:s.sp<4294967296
 v:s.value<4294967296
theorem FindOk.check {code:List (Nat×Nat)} {js ats:List Nat} (h:FindOk code js ats) {i:Nat} (hi:i<code.length):argAt code i≤mostOf (opAt code i):=by
 have h1:checkN (code.getD i (0,0)).1 (code.getD i (0,0)).2=0:=encRes_all h.he i hi;have h2:=isOp_ok h1;unfold checkN at h1;rw[if_pos h2]at h1;by_cases e:mostOf (code.getD i (0,0)).1<(code.getD i (0,0)).2
 ·rw[if_pos e]at h1;cases h1
 ·exact Nat.not_lt.1 e
theorem most_lt (o:Nat):mostOf o<4294967296:=by
 by_cases h:o<60
 ·have:∀o<60,mostOf o<4294967296:=by decide+kernel
  exact this o h
 ·have:rowOf o=([],0,0,0,0,0):=by
   unfold rowOf
   rw[List.getD_eq_getElem?_getD,List.getElem?_eq_none (by
    have:opTab.length=60:=by decide+kernel
    omega)]
   rfl
  unfold mostOf;rw[this];decide
theorem most35:mostOf 35=256:=by decide+kernel
def ActStep (w0:World) (b:Nat) (K:MacK) (s:St) (R:MacR) (M:MemK) (logs:Bool) (tou:List (Nat×Bool)) (evs:List (Ev×Value)) (lg:List (Nat×Bool)) (vo vt:Value) (w:World) (p:Stp) (e:Ending) (w':World):Prop:=
 (p.st.life≠3∧e=.returned (.tuple #[])∧∃vo' vt' R' evs',MachX w' b K p.st vo' R' M vt' logs (touL logs tou p.tou) evs' lg∧evs'.map (·.1)=evs.map (·.1)++p.ev∧RepsS w' (allF b vo' R' M vt') R'.replies p.reps∧R'.on=R.on∧R'.log=R.log∧Fr w w' (allF b vo R M vt) (allF b vo' R' M vt'))∨
 ∃f,p.st=s.flt f∧p.ev=[]∧RepsS w (allF b vo R M vt) R.replies p.reps∧ActFlt b K s R M logs tou vo vt w f p.tou e w'
section
variable {w0 w w':World} {b:Nat} {K:MacK} {s s':St} {vo vo':Value} {R:MacR} {M:MemK} {vt vt':Value} {logs:Bool} {tou tou':List (Nat×Bool)} {evs:List (Ev×Value)} {lg:List (Nat×Bool)} {gr:List (Nat×Int)} {mb:Nat} {m:Img} {reps:List Rep} {e:Ending}
theorem stepOk (h:MachX w b K s vo R M vt logs tou evs lg) (hr:RepsS w (allF b vo R M vt) R.replies reps) {t:List (Nat×Bool)} (ha:ActOk b K R M logs tou vo vt w (s',t) e w') (hl:s'.life≠3):ActStep w0 b K s R M logs tou evs lg vo vt w ⟨s',t,[],reps⟩ e w':=by
 obtain⟨rfl,vo',vt',hm,hf⟩:=ha;exact .inl ⟨hl,rfl,vo',vt',R,evs,h.act hm hf,by simp,hr.fr (frA hf R),rfl,rfl,frA hf R⟩
theorem stepFlt (hr:RepsS w (allF b vo R M vt) R.replies reps) {f:Nat} {t:List (Nat×Bool)} (ha:ActFlt b K s R M logs tou vo vt w f t e w'):ActStep w0 b K s R M logs tou evs lg vo vt w ⟨s.flt f,t,[],reps⟩ e w':=
 .inr ⟨f,rfl,rfl,hr,ha⟩
theorem loadN_lt {d:List Nat} (hd:∀x∈d,x<256) (a:Nat):∀n,n≤4→loadN d a n<256 ^ n
 | 0,_=>by simp[loadN]
 | n+1,h=>by
  have h1:=loadN_lt hd a n (by omega);have h2:=byteAt_lt hd (a+n)
  show loadN d a n+byteAt d (a+n)*256 ^ n<_
  have h3:byteAt d (a+n)*256 ^ n≤255*256 ^ n:=Nat.mul_le_mul_right _ (by omega);have h4:(256:Nat) ^ (n+1)=256 ^ n*256:=Nat.pow_succ ..;omega
theorem stepM_none {mo:Mo} (h:sysM mo s=none):stepM mo gr reps s=⟨(actM mo (opAt mo.im.code s.pc) (argAt mo.im.code s.pc) s).1,(actM mo (opAt mo.im.code s.pc) (argAt mo.im.code s.pc) s).2,[],reps⟩:=by
 unfold stepM;rw[h]
theorem stepM_no {mo:Mo} {x:Nat} (h:sysM mo s=some x) (hg:grantedN gr x=none):stepM mo gr reps s=⟨s.flt 8,[],[],reps⟩:=by
 unfold stepM;rw[h];simp only[hg]
theorem stepM_yes {mo:Mo} {x:Nat} {n:Int} {r:Rep} {rs:List Rep} (h:sysM mo s=some x) (hg:grantedN gr x=some n):stepM mo gr (r::rs) s=⟨{s with data:=applyN s.data r.ws,ops:=s.drops 1++[r.val],pc:=s.pc+1},wordsT mo.size s.sp n.toNat++applyT mo.size r.ws,[⟨s.pc,x,wordsM s.data s.sp n.toNat,r.val⟩],rs⟩:=by
 unfold stepM;rw[h];simp only[hg]
theorem waits_nil {mo:Mo} {x:Nat} {n:Int} (h:sysM mo s=some x) (hg:grantedN gr x=some n) (hw:waitsM mo gr reps s=none):∃r rs,reps=r::rs:=by
 cases reps with
 | nil=>unfold waitsM at hw;rw[h]at hw;simp[hg]at hw
 | cons r rs=>exact⟨r,rs,rfl⟩
structure AH (w0 w:World) (b:Nat) (K:MacK) (s:St) (vo:Value) (R:MacR) (M:MemK) (vt:Value) (logs:Bool) (tou:List (Nat×Bool)) (evs:List (Ev×Value)) (lg:List (Nat×Bool)) (gr:List (Nat×Int)) (mb:Nat) (m:Img) (reps:List Rep):Prop where
 st:Stat w0 K mb m gr
 x:MachX w b K s vo R M vt logs tou evs lg
 home:Home w0 w (allF b vo R M vt)
 wf:Wf s
 l1:s.life=1
 fit:(moOf m).fits s=true
 rep:RepsS w (allF b vo R M vt) R.replies reps
structure AF (w0 w:World) (b:Nat) (K:MacK) (s:St) (vo:Value) (R:MacR) (M:MemK) (vt:Value) (logs:Bool) (tou:List (Nat×Bool)) (mb:Nat) (m:Img):Prop where
 a1:s.pc<m.code.length
 a4:s.ops.length≤64
 htk:tgk (opAt m.code s.pc)=tgkT (opAt m.code s.pc)
 htk3:(takesOf (opAt m.code s.pc):Int)≤s.ops.length
 hop:1≤opAt m.code s.pc∧opAt m.code s.pc≤59
 harg:argAt m.code s.pc≤mostOf (opAt m.code s.pc)
 ha9:argAt m.code s.pc<4294967296
 hp9:s.pc<4294967295
 hm:Mach w b K s vo R M vt logs tou
 hhm:Home w0 w (machF b vo M vt)
 hN:M.N=(moOf m).size
 z:2 ^ 8≤2 ^ (moOf m).k∧2 ^ (moOf m).k≤65536∧m.stack≤2 ^ (moOf m).k
 hld:∀a,loadN s.data a 4<4294967296
 ol:∀l x,s.ops=l++[x]→l.length≤65535∧x<4294967296∧l.length+1=s.ops.length
 ol2:∀l x y,s.ops=l++[x]++[y]→l.length≤65535∧x<4294967296∧y<4294967296
theorem AH.f (H:AH w0 w b K s vo R M vt logs tou evs lg gr mb m reps):AF w0 w b K s vo R M vt logs tou mb m:=by
 have hk:=H.st.mod.k;have hmo:=moOk hk;obtain⟨a1,a2,a3,a4⟩:=hmo.at_ H.l1 H.fit;have a1':s.pc<m.code.length:=a1;have a2':isOp (opAt m.code s.pc)=true:=a2;obtain⟨p1,p2,p3,p4,p5,p6,p7⟩:=(fits_iff H.l1).1 H.fit;obtain⟨z1,z2,z3,z4,z5,z6⟩:=hmo.sizes;have hl16:m.code.length≤16384:=(checkI_ok hk.k).1;have harg:=(findOk_nil hk.f).check a1';have hml:=most_lt (opAt m.code s.pc);refine⟨a1',a4,tgk_eq a2,a3,by simpa[isOp]using a2',harg,by omega,by omega,H.x.m,H.home.sub (fun k e=>.inl e),by rw[←H.x.m.mem.len];exact p1,⟨z1,z2,z3⟩,fun a=>loadN_lt H.x.m.mem.lt a 4 (Nat.le_refl _),fun l x e=>?_,fun l x y e=>?_⟩
 ·have e2:=congrArg List.length e
  simp at e2;exact⟨by omega,H.wf.ops x (by rw[e];simp),by omega⟩
 ·have e2:=congrArg List.length e
  simp at e2;exact⟨by omega,H.wf.ops x (by rw[e];simp),H.wf.ops y (by rw[e];simp)⟩
theorem act_1 (H:AH w0 w b K s vo R M vt logs tou evs lg gr mb m reps) (c:opAt m.code s.pc=1):Calls Tryz.prog (actF 1) #[.pointer (some ⟨b,0,none⟩),.agg #[.int .u8 (1:Nat),.int .u32 (argAt m.code s.pc)]] w (ActStep w0 b K s R M logs tou evs lg vo vt w ⟨(actM (moOf m) 1 (argAt m.code s.pc) s).1,(actM (moOf m) 1 (argAt m.code s.pc) s).2,[],reps⟩):=by
 have F:=H.f;have hst:=H.st;have h:=H.x;have hh:=H.home;have hwf:=H.wf;have h1:=H.l1;have hr:=H.rep;have hm:=F.hm;have hhm:=F.hhm;have hp9:=F.hp9;have hN:=F.hN;have a4:=F.a4;have ho9:∀a,actM (moOf m) 1 a s=({s with pc:=s.pc+1},[]):=fun a=>rfl;rw[ho9];have ha9:=F.ha9;exact(nop_ok hm hp9 1 (argAt m.code s.pc)).mono fun e w' ha=>stepOk h hr ha (by show s.life≠3;rw[h1];decide)
theorem act_2 (H:AH w0 w b K s vo R M vt logs tou evs lg gr mb m reps) (c:opAt m.code s.pc=2):Calls Tryz.prog (actF 2) #[.pointer (some ⟨b,0,none⟩),.agg #[.int .u8 (2:Nat),.int .u32 (argAt m.code s.pc)]] w (ActStep w0 b K s R M logs tou evs lg vo vt w ⟨(actM (moOf m) 2 (argAt m.code s.pc) s).1,(actM (moOf m) 2 (argAt m.code s.pc) s).2,[],reps⟩):=by
 have F:=H.f;have hst:=H.st;have h:=H.x;have hh:=H.home;have hwf:=H.wf;have h1:=H.l1;have hr:=H.rep;have hm:=F.hm;have hhm:=F.hhm;have hp9:=F.hp9;have hN:=F.hN;have a4:=F.a4;have ho9:∀a,actM (moOf m) 2 a s=(s.flt 1,[]):=fun a=>rfl;rw[ho9];have ha9:=F.ha9;exact(halt_flt hm 2 (argAt m.code s.pc)).mono fun e w' ha=>stepFlt hr ha
theorem act_3 (H:AH w0 w b K s vo R M vt logs tou evs lg gr mb m reps) (c:opAt m.code s.pc=3):Calls Tryz.prog (actF 3) #[.pointer (some ⟨b,0,none⟩),.agg #[.int .u8 (3:Nat),.int .u32 (argAt m.code s.pc)]] w (ActStep w0 b K s R M logs tou evs lg vo vt w ⟨(actM (moOf m) 3 (argAt m.code s.pc) s).1,(actM (moOf m) 3 (argAt m.code s.pc) s).2,[],reps⟩):=by
 have F:=H.f;have hst:=H.st;have h:=H.x;have hh:=H.home;have hwf:=H.wf;have h1:=H.l1;have hr:=H.rep;have hm:=F.hm;have hhm:=F.hhm;have hp9:=F.hp9;have hN:=F.hN;have a4:=F.a4;have ho9:∀a,actM (moOf m) 3 a s=if s.sp<2 ^ (moOf m).k - (moOf m).im.stack+a then(s.flt 6,[])else({s with sp:=s.sp - a,pc:=s.pc+1},[]):=fun a=>rfl;rw[ho9];have ha9:=F.ha9;have hfl:K.floor=2 ^ (moOf m).k - (moOf m).im.stack:=hst.floor;have hz:=F.z;by_cases c:s.sp<2 ^ (moOf m).k - (moOf m).im.stack+argAt m.code s.pc
 ·rw[if_pos c]
  exact(enter_flt hm 3 (argAt m.code s.pc) ha9 hwf.sp (by omega) (by omega)).mono fun e w' ha=>stepFlt hr ha
 ·rw[if_neg c]
  exact(enter_ok hm hp9 3 (argAt m.code s.pc) ha9 hwf.sp (by omega) (by omega)).mono fun e w' ha=>stepOk h hr ha (by show s.life≠3;rw[h1];decide)
theorem ite_join {α:Type} {c:Prop} [Decidable c] {A A':Prop} {x y:α} {T:α→Prop} (h:if c then A else A') (h1:A→T x) (h2:A'→T y):T (if c then x else y):=by
 by_cases hc:c
 ·rw[if_pos hc]at h⊢;exact h1 h
 ·rw[if_neg hc]at h⊢;exact h2 h
theorem leaveM_eq (mo:Mo) (a:Nat) (s:St) {l:List Nat} {x:Nat} (hl:s.ops=l++[x]):leaveM mo a s=
 (if mo.top<(s.sp+a)%4294967296 then(s.flt 6,[])
 else if loadN s.data ((s.sp+a)%4294967296) 4=4294967295 then({s with life:=2,value:=x,sp:=(s.sp+a)%4294967296,ops:=l},touN mo.size ((s.sp+a)%4294967296) 4 false)
 else if mo.back (loadN s.data ((s.sp+a)%4294967296) 4)=false∨((l.length:Int)+1)<mo.depth (loadN s.data ((s.sp+a)%4294967296) 4)then(s.flt 7,touN mo.size ((s.sp+a)%4294967296) 4 false)
 else if 64<((l.length:Int)+1) - mo.depth (loadN s.data ((s.sp+a)%4294967296) 4)+mo.need (loadN s.data ((s.sp+a)%4294967296) 4)then(s.flt 5,touN mo.size ((s.sp+a)%4294967296) 4 false)
 else({s with sp:=(s.sp+a)%4294967296,pc:=loadN s.data ((s.sp+a)%4294967296) 4},touN mo.size ((s.sp+a)%4294967296) 4 false)):=by
 obtain⟨tw1,tw2⟩:=topW_one hl;have h9:(s.ops.length:Int)=(l.length:Int)+1:=by rw[hl];simp
 unfold leaveM;rw[tw1,tw2,h9]
theorem act_4 (H:AH w0 w b K s vo R M vt logs tou evs lg gr mb m reps) (c:opAt m.code s.pc=4):Calls Tryz.prog (actF 4) #[.pointer (some ⟨b,0,none⟩),.agg #[.int .u8 (4:Nat),.int .u32 (argAt m.code s.pc)]] w (ActStep w0 b K s R M logs tou evs lg vo vt w ⟨(actM (moOf m) 4 (argAt m.code s.pc) s).1,(actM (moOf m) 4 (argAt m.code s.pc) s).2,[],reps⟩):=by
 have F:=H.f;have hst:=H.st;have h:=H.x;have hh:=H.home;have hwf:=H.wf;have h1:=H.l1;have hr:=H.rep;have hm:=F.hm;have hhm:=F.hhm;have hp9:=F.hp9;have hN:=F.hN;have a4:=F.a4;have ho9:∀a,actM (moOf m) 4 a s=leaveM (moOf m) a s:=fun a=>by unfold actM;rw[if_neg (by decide),if_neg (by decide),if_neg (by decide),if_pos rfl]
 rw[ho9];have ha9:=F.ha9;obtain⟨l,x,hl⟩:=pop_of (l:=s.ops) (by have:=F.htk3;rw[c]at this;have e9:takesOf 4=1:=(by decide+kernel);omega);obtain⟨ol1,ol2',ol3⟩:=F.ol l x hl;obtain⟨tw1,tw2⟩:=topW_one hl;have htop:K.top=(moOf m).top:=hst.top;have htl:(moOf m).top<4294967296:=by have hz:=F.z;unfold Mo.top;omega
 rw[leaveM_eq (moOf m) (argAt m.code s.pc) s hl];refine(leave_act hm hhm hst.mod hst.md hl ol1 hwf.sp (by omega) 4 (argAt m.code s.pc) ha9 (F.hld _)).mono ?_;intro e w' hc;unfold LeavePost at hc;rw[htop,hN]at hc;obtain⟨T,hT⟩:∃T:St×List (Nat×Bool)→Prop,T=fun r=>ActStep w0 b K s R M logs tou evs lg vo vt w ⟨r.1,r.2,[],reps⟩ e w':=⟨_,rfl⟩;have k1:∀f t,ActFlt b K s R M logs tou vo vt w f t e w'→T (s.flt f,t):=by rw[hT];exact fun f t h=>stepFlt hr h
 have k2:∀s' t,s'.life≠3→ActOk b K R M logs tou vo vt w (s',t) e w'→T (s',t):=by rw[hT];exact fun s' t hl h'=>stepOk h hr h' hl
 have k3:∀r,T r→ActStep w0 b K s R M logs tou evs lg vo vt w ⟨r.1,r.2,[],reps⟩ e w':=by rw[hT];exact fun r h=>h
 clear hT;have e2:(2:Nat)≠3:=by decide
 exact k3 _ (ite_join hc (k1 _ _) (fun hc=>ite_join hc (k2 _ _ e2) (fun hc=>ite_join hc (k1 _ _) (fun hc=>ite_join hc (k1 _ _) (k2 _ _ (by show s.life≠3;rw[h1];decide))))))
theorem act_6 (H:AH w0 w b K s vo R M vt logs tou evs lg gr mb m reps) (c:opAt m.code s.pc=6):Calls Tryz.prog (actF 6) #[.pointer (some ⟨b,0,none⟩),.agg #[.int .u8 (6:Nat),.int .u32 (argAt m.code s.pc)]] w (ActStep w0 b K s R M logs tou evs lg vo vt w ⟨(actM (moOf m) 6 (argAt m.code s.pc) s).1,(actM (moOf m) 6 (argAt m.code s.pc) s).2,[],reps⟩):=by
 have F:=H.f;have hst:=H.st;have h:=H.x;have hh:=H.home;have hwf:=H.wf;have h1:=H.l1;have hr:=H.rep;have hm:=F.hm;have hhm:=F.hhm;have hp9:=F.hp9;have hN:=F.hN;have a4:=F.a4;have ho9:∀a,actM (moOf m) 6 a s=({s with pc:=a},[]):=fun a=>rfl;rw[ho9];have ha9:=F.ha9;exact(goto_ok hm 6 (argAt m.code s.pc)).mono fun e w' ha=>stepOk h hr ha (by show s.life≠3;rw[h1];decide)
theorem act_7 (H:AH w0 w b K s vo R M vt logs tou evs lg gr mb m reps) (c:opAt m.code s.pc=7):Calls Tryz.prog (actF 7) #[.pointer (some ⟨b,0,none⟩),.agg #[.int .u8 (7:Nat),.int .u32 (argAt m.code s.pc)]] w (ActStep w0 b K s R M logs tou evs lg vo vt w ⟨(actM (moOf m) 7 (argAt m.code s.pc) s).1,(actM (moOf m) 7 (argAt m.code s.pc) s).2,[],reps⟩):=by
 have F:=H.f;have hst:=H.st;have h:=H.x;have hh:=H.home;have hwf:=H.wf;have h1:=H.l1;have hr:=H.rep;have hm:=F.hm;have hhm:=F.hhm;have hp9:=F.hp9;have hN:=F.hN;have a4:=F.a4;have ho9:∀a,actM (moOf m) 7 a s=if(moOf m).legal s.pc (topW s 0)then({s with pc:=topW s 0,ops:=s.drops 1},[])else(s.flt 3,[]):=fun a=>rfl;rw[ho9];have ha9:=F.ha9;obtain⟨l,x,hl⟩:=pop_of (l:=s.ops) (by have:=F.htk3;rw[c]at this;have e9:takesOf 7=1:=(by decide+kernel);omega);obtain⟨ol1,ol2',ol3⟩:=F.ol l x hl;obtain⟨tw1,tw2⟩:=topW_one hl;rw[tw1,tw2];refine(jump_act hm hhm hst.mod hst.md hl ol1 F.a1 hp9 c 7 (argAt m.code s.pc)).mono ?_;intro e w' hc;by_cases b1:(moOf m).legal s.pc x=true
 ·rw[if_pos b1]at hc⊢
  exact stepOk h hr hc (by show s.life≠3;rw[h1];decide)
 ·rw[if_neg b1]at hc⊢
  exact stepFlt hr hc
theorem act_8 (H:AH w0 w b K s vo R M vt logs tou evs lg gr mb m reps) (c:opAt m.code s.pc=8):Calls Tryz.prog (actF 8) #[.pointer (some ⟨b,0,none⟩),.agg #[.int .u8 (8:Nat),.int .u32 (argAt m.code s.pc)]] w (ActStep w0 b K s R M logs tou evs lg vo vt w ⟨(actM (moOf m) 8 (argAt m.code s.pc) s).1,(actM (moOf m) 8 (argAt m.code s.pc) s).2,[],reps⟩):=by
 have F:=H.f;have hst:=H.st;have h:=H.x;have hh:=H.home;have hwf:=H.wf;have h1:=H.l1;have hr:=H.rep;have hm:=F.hm;have hhm:=F.hhm;have hp9:=F.hp9;have hN:=F.hN;have a4:=F.a4;have ho9:∀a,actM (moOf m) 8 a s=({s with ops:=s.ops++[a],pc:=s.pc+1},[]):=fun a=>rfl;rw[ho9];have ha9:=F.ha9;exact(constant_ok hm (by omega) hp9 8 (argAt m.code s.pc)).mono fun e w' ha=>stepOk h hr ha (by show s.life≠3;rw[h1];decide)
theorem act_9 (H:AH w0 w b K s vo R M vt logs tou evs lg gr mb m reps) (c:opAt m.code s.pc=9):Calls Tryz.prog (actF 9) #[.pointer (some ⟨b,0,none⟩),.agg #[.int .u8 (9:Nat),.int .u32 (argAt m.code s.pc)]] w (ActStep w0 b K s R M logs tou evs lg vo vt w ⟨(actM (moOf m) 9 (argAt m.code s.pc) s).1,(actM (moOf m) 9 (argAt m.code s.pc) s).2,[],reps⟩):=by
 have F:=H.f;have hst:=H.st;have h:=H.x;have hh:=H.home;have hwf:=H.wf;have h1:=H.l1;have hr:=H.rep;have hm:=F.hm;have hhm:=F.hhm;have hp9:=F.hp9;have hN:=F.hN;have a4:=F.a4;have ho9:∀a,actM (moOf m) 9 a s=({s with ops:=s.ops++[(s.sp+a)%4294967296],pc:=s.pc+1},[]):=fun a=>rfl;rw[ho9];have ha9:=F.ha9;exact(local_ok hm (by omega) hp9 9 (argAt m.code s.pc)).mono fun e w' ha=>stepOk h hr ha (by show s.life≠3;rw[h1];decide)
theorem act_10 (H:AH w0 w b K s vo R M vt logs tou evs lg gr mb m reps) (c:opAt m.code s.pc=10):Calls Tryz.prog (actF 10) #[.pointer (some ⟨b,0,none⟩),.agg #[.int .u8 (10:Nat),.int .u32 (argAt m.code s.pc)]] w (ActStep w0 b K s R M logs tou evs lg vo vt w ⟨(actM (moOf m) 10 (argAt m.code s.pc) s).1,(actM (moOf m) 10 (argAt m.code s.pc) s).2,[],reps⟩):=by
 have F:=H.f;have hst:=H.st;have h:=H.x;have hh:=H.home;have hwf:=H.wf;have h1:=H.l1;have hr:=H.rep;have hm:=F.hm;have hhm:=F.hhm;have hp9:=F.hp9;have hN:=F.hN;have a4:=F.a4;have ho9:∀a,actM (moOf m) 10 a s=({s with ops:=s.drops 1,pc:=s.pc+1},[]):=fun a=>rfl;rw[ho9];have ha9:=F.ha9;obtain⟨l,x,hl⟩:=pop_of (l:=s.ops) (by have:=F.htk3;rw[c]at this;have e9:takesOf 10=1:=(by decide+kernel);omega);obtain⟨ol1,ol2',ol3⟩:=F.ol l x hl;obtain⟨tw1,tw2⟩:=topW_one hl;rw[tw2];exact(drop_ok hm hl (by omega) hp9 10 (argAt m.code s.pc)).mono fun e w' ha=>stepOk h hr ha (by show s.life≠3;rw[h1];decide)
theorem act_11 (H:AH w0 w b K s vo R M vt logs tou evs lg gr mb m reps) (c:opAt m.code s.pc=11):Calls Tryz.prog (actF 11) #[.pointer (some ⟨b,0,none⟩),.agg #[.int .u8 (11:Nat),.int .u32 (argAt m.code s.pc)]] w (ActStep w0 b K s R M logs tou evs lg vo vt w ⟨(actM (moOf m) 11 (argAt m.code s.pc) s).1,(actM (moOf m) 11 (argAt m.code s.pc) s).2,[],reps⟩):=by
 have F:=H.f;have hst:=H.st;have h:=H.x;have hh:=H.home;have hwf:=H.wf;have h1:=H.l1;have hr:=H.rep;have hm:=F.hm;have hhm:=F.hhm;have hp9:=F.hp9;have hN:=F.hN;have a4:=F.a4;have ho9:∀a,actM (moOf m) 11 a s=({s with ops:=s.ops++[topW s 0],pc:=s.pc+1},[]):=fun a=>rfl;rw[ho9];have ha9:=F.ha9;obtain⟨l,x,hl⟩:=pop_of (l:=s.ops) (by have:=F.htk3;rw[c]at this;have e9:takesOf 11=1:=(by decide+kernel);omega);obtain⟨ol1,ol2',ol3⟩:=F.ol l x hl;obtain⟨tw1,tw2⟩:=topW_one hl;rw[tw1];refine(dup_ok hm hl (by omega) hp9 11 (argAt m.code s.pc)).mono fun e w' ha=>stepOk h hr ?_ (by show s.life≠3;rw[h1];decide);rw[hl];exact ha
theorem act_12 (H:AH w0 w b K s vo R M vt logs tou evs lg gr mb m reps) (c:opAt m.code s.pc=12):Calls Tryz.prog (actF 12) #[.pointer (some ⟨b,0,none⟩),.agg #[.int .u8 (12:Nat),.int .u32 (argAt m.code s.pc)]] w (ActStep w0 b K s R M logs tou evs lg vo vt w ⟨(actM (moOf m) 12 (argAt m.code s.pc) s).1,(actM (moOf m) 12 (argAt m.code s.pc) s).2,[],reps⟩):=by
 have F:=H.f;have hst:=H.st;have h:=H.x;have hh:=H.home;have hwf:=H.wf;have h1:=H.l1;have hr:=H.rep;have hm:=F.hm;have hhm:=F.hhm;have hp9:=F.hp9;have hN:=F.hN;have a4:=F.a4;have ho9:∀a,actM (moOf m) 12 a s=({s with ops:=s.drops 1,data:=storeN s.data ((s.sp+4+4*a)%4294967296) (topW s 0) 4,pc:=s.pc+1},touN (moOf m).size ((s.sp+4+4*a)%4294967296) 4 true):=fun a=>rfl;rw[ho9];have ha9:=F.ha9;obtain⟨l,x,hl⟩:=pop_of (l:=s.ops) (by have:=F.htk3;rw[c]at this;have e9:takesOf 12=1:=(by decide+kernel);omega);obtain⟨ol1,ol2',ol3⟩:=F.ol l x hl;obtain⟨tw1,tw2⟩:=topW_one hl;rw[tw1,tw2,←hN];exact(arg_act hm hl ol2' ol1 hp9 12 (argAt m.code s.pc)).mono fun e w' ha=>stepOk h hr ha (by show s.life≠3;rw[h1];decide)
theorem act_29 (H:AH w0 w b K s vo R M vt logs tou evs lg gr mb m reps) (c:opAt m.code s.pc=29):Calls Tryz.prog (actF 29) #[.pointer (some ⟨b,0,none⟩),.agg #[.int .u8 (29:Nat),.int .u32 (argAt m.code s.pc)]] w (ActStep w0 b K s R M logs tou evs lg vo vt w ⟨(actM (moOf m) 29 (argAt m.code s.pc) s).1,(actM (moOf m) 29 (argAt m.code s.pc) s).2,[],reps⟩):=by
 have F:=H.f;have hst:=H.st;have h:=H.x;have hh:=H.home;have hwf:=H.wf;have h1:=H.l1;have hr:=H.rep;have hm:=F.hm;have hhm:=F.hhm;have hp9:=F.hp9;have hN:=F.hN;have a4:=F.a4;have ho9:∀a,actM (moOf m) 29 a s=({s with ops:=s.drops 1++[loadN s.data (topW s 0) 1],pc:=s.pc+1},touN (moOf m).size (topW s 0) 1 false):=fun a=>rfl;rw[ho9];have ha9:=F.ha9;obtain⟨l,x,hl⟩:=pop_of (l:=s.ops) (by have:=F.htk3;rw[c]at this;have e9:takesOf 29=1:=(by decide+kernel);omega);obtain⟨ol1,ol2',ol3⟩:=F.ol l x hl;obtain⟨tw1,tw2⟩:=topW_one hl;rw[tw1,tw2,←hN];exact(load1_act hm hl ol2' ol1 hp9 29 (argAt m.code s.pc)).mono fun e w' ha=>stepOk h hr ha (by show s.life≠3;rw[h1];decide)
theorem act_30 (H:AH w0 w b K s vo R M vt logs tou evs lg gr mb m reps) (c:opAt m.code s.pc=30):Calls Tryz.prog (actF 30) #[.pointer (some ⟨b,0,none⟩),.agg #[.int .u8 (30:Nat),.int .u32 (argAt m.code s.pc)]] w (ActStep w0 b K s R M logs tou evs lg vo vt w ⟨(actM (moOf m) 30 (argAt m.code s.pc) s).1,(actM (moOf m) 30 (argAt m.code s.pc) s).2,[],reps⟩):=by
 have F:=H.f;have hst:=H.st;have h:=H.x;have hh:=H.home;have hwf:=H.wf;have h1:=H.l1;have hr:=H.rep;have hm:=F.hm;have hhm:=F.hhm;have hp9:=F.hp9;have hN:=F.hN;have a4:=F.a4;have ho9:∀a,actM (moOf m) 30 a s=({s with ops:=s.drops 1++[loadN s.data (topW s 0) 2],pc:=s.pc+1},touN (moOf m).size (topW s 0) 2 false):=fun a=>rfl;rw[ho9];have ha9:=F.ha9;obtain⟨l,x,hl⟩:=pop_of (l:=s.ops) (by have:=F.htk3;rw[c]at this;have e9:takesOf 30=1:=(by decide+kernel);omega);obtain⟨ol1,ol2',ol3⟩:=F.ol l x hl;obtain⟨tw1,tw2⟩:=topW_one hl;rw[tw1,tw2,←hN];exact(load2_act hm hl ol2' ol1 hp9 30 (argAt m.code s.pc)).mono fun e w' ha=>stepOk h hr ha (by show s.life≠3;rw[h1];decide)
theorem act_31 (H:AH w0 w b K s vo R M vt logs tou evs lg gr mb m reps) (c:opAt m.code s.pc=31):Calls Tryz.prog (actF 31) #[.pointer (some ⟨b,0,none⟩),.agg #[.int .u8 (31:Nat),.int .u32 (argAt m.code s.pc)]] w (ActStep w0 b K s R M logs tou evs lg vo vt w ⟨(actM (moOf m) 31 (argAt m.code s.pc) s).1,(actM (moOf m) 31 (argAt m.code s.pc) s).2,[],reps⟩):=by
 have F:=H.f;have hst:=H.st;have h:=H.x;have hh:=H.home;have hwf:=H.wf;have h1:=H.l1;have hr:=H.rep;have hm:=F.hm;have hhm:=F.hhm;have hp9:=F.hp9;have hN:=F.hN;have a4:=F.a4;have ho9:∀a,actM (moOf m) 31 a s=({s with ops:=s.drops 1++[loadN s.data (topW s 0) 4],pc:=s.pc+1},touN (moOf m).size (topW s 0) 4 false):=fun a=>rfl;rw[ho9];have ha9:=F.ha9;obtain⟨l,x,hl⟩:=pop_of (l:=s.ops) (by have:=F.htk3;rw[c]at this;have e9:takesOf 31=1:=(by decide+kernel);omega);obtain⟨ol1,ol2',ol3⟩:=F.ol l x hl;obtain⟨tw1,tw2⟩:=topW_one hl;rw[tw1,tw2,←hN];exact(load4_act hm hl ol2' ol1 hp9 31 (argAt m.code s.pc)).mono fun e w' ha=>stepOk h hr ha (by show s.life≠3;rw[h1];decide)
theorem act_32 (H:AH w0 w b K s vo R M vt logs tou evs lg gr mb m reps) (c:opAt m.code s.pc=32):Calls Tryz.prog (actF 32) #[.pointer (some ⟨b,0,none⟩),.agg #[.int .u8 (32:Nat),.int .u32 (argAt m.code s.pc)]] w (ActStep w0 b K s R M logs tou evs lg vo vt w ⟨(actM (moOf m) 32 (argAt m.code s.pc) s).1,(actM (moOf m) 32 (argAt m.code s.pc) s).2,[],reps⟩):=by
 have F:=H.f;have hst:=H.st;have h:=H.x;have hh:=H.home;have hwf:=H.wf;have h1:=H.l1;have hr:=H.rep;have hm:=F.hm;have hhm:=F.hhm;have hp9:=F.hp9;have hN:=F.hN;have a4:=F.a4;have ho9:∀a,actM (moOf m) 32 a s=({s with ops:=s.drops 2,data:=storeN s.data (topW s 1) (topW s 0) 1,pc:=s.pc+1},touN (moOf m).size (topW s 1) 1 true):=fun a=>rfl;rw[ho9];have ha9:=F.ha9;obtain⟨l,x,y,hl⟩:=pop2_of (l:=s.ops) (by have:=F.htk3;rw[c]at this;have e9:takesOf 32=2:=(by decide+kernel);omega);obtain⟨ol1,ol2',ol3⟩:=F.ol2 l x y hl;obtain⟨tw1,tw2,tw3,tw4⟩:=topW_two hl;rw[tw1,tw2,tw3,←hN];exact(store1_act hm hl ol2' ol3 ol1 hp9 32 (argAt m.code s.pc)).mono fun e w' ha=>stepOk h hr ha (by show s.life≠3;rw[h1];decide)
theorem act_33 (H:AH w0 w b K s vo R M vt logs tou evs lg gr mb m reps) (c:opAt m.code s.pc=33):Calls Tryz.prog (actF 33) #[.pointer (some ⟨b,0,none⟩),.agg #[.int .u8 (33:Nat),.int .u32 (argAt m.code s.pc)]] w (ActStep w0 b K s R M logs tou evs lg vo vt w ⟨(actM (moOf m) 33 (argAt m.code s.pc) s).1,(actM (moOf m) 33 (argAt m.code s.pc) s).2,[],reps⟩):=by
 have F:=H.f;have hst:=H.st;have h:=H.x;have hh:=H.home;have hwf:=H.wf;have h1:=H.l1;have hr:=H.rep;have hm:=F.hm;have hhm:=F.hhm;have hp9:=F.hp9;have hN:=F.hN;have a4:=F.a4;have ho9:∀a,actM (moOf m) 33 a s=({s with ops:=s.drops 2,data:=storeN s.data (topW s 1) (topW s 0) 2,pc:=s.pc+1},touN (moOf m).size (topW s 1) 2 true):=fun a=>rfl;rw[ho9];have ha9:=F.ha9;obtain⟨l,x,y,hl⟩:=pop2_of (l:=s.ops) (by have:=F.htk3;rw[c]at this;have e9:takesOf 33=2:=(by decide+kernel);omega);obtain⟨ol1,ol2',ol3⟩:=F.ol2 l x y hl;obtain⟨tw1,tw2,tw3,tw4⟩:=topW_two hl;rw[tw1,tw2,tw3,←hN];exact(store2_act hm hl ol2' ol3 ol1 hp9 33 (argAt m.code s.pc)).mono fun e w' ha=>stepOk h hr ha (by show s.life≠3;rw[h1];decide)
theorem act_34 (H:AH w0 w b K s vo R M vt logs tou evs lg gr mb m reps) (c:opAt m.code s.pc=34):Calls Tryz.prog (actF 34) #[.pointer (some ⟨b,0,none⟩),.agg #[.int .u8 (34:Nat),.int .u32 (argAt m.code s.pc)]] w (ActStep w0 b K s R M logs tou evs lg vo vt w ⟨(actM (moOf m) 34 (argAt m.code s.pc) s).1,(actM (moOf m) 34 (argAt m.code s.pc) s).2,[],reps⟩):=by
 have F:=H.f;have hst:=H.st;have h:=H.x;have hh:=H.home;have hwf:=H.wf;have h1:=H.l1;have hr:=H.rep;have hm:=F.hm;have hhm:=F.hhm;have hp9:=F.hp9;have hN:=F.hN;have a4:=F.a4;have ho9:∀a,actM (moOf m) 34 a s=({s with ops:=s.drops 2,data:=storeN s.data (topW s 1) (topW s 0) 4,pc:=s.pc+1},touN (moOf m).size (topW s 1) 4 true):=fun a=>rfl;rw[ho9];have ha9:=F.ha9;obtain⟨l,x,y,hl⟩:=pop2_of (l:=s.ops) (by have:=F.htk3;rw[c]at this;have e9:takesOf 34=2:=(by decide+kernel);omega);obtain⟨ol1,ol2',ol3⟩:=F.ol2 l x y hl;obtain⟨tw1,tw2,tw3,tw4⟩:=topW_two hl;rw[tw1,tw2,tw3,←hN];exact(store4_act hm hl ol2' ol3 ol1 hp9 34 (argAt m.code s.pc)).mono fun e w' ha=>stepOk h hr ha (by show s.life≠3;rw[h1];decide)
theorem act_35 (H:AH w0 w b K s vo R M vt logs tou evs lg gr mb m reps) (c:opAt m.code s.pc=35):Calls Tryz.prog (actF 35) #[.pointer (some ⟨b,0,none⟩),.agg #[.int .u8 (35:Nat),.int .u32 (argAt m.code s.pc)]] w (ActStep w0 b K s R M logs tou evs lg vo vt w ⟨(actM (moOf m) 35 (argAt m.code s.pc) s).1,(actM (moOf m) 35 (argAt m.code s.pc) s).2,[],reps⟩):=by
 have F:=H.f;have hst:=H.st;have h:=H.x;have hh:=H.home;have hwf:=H.wf;have h1:=H.l1;have hr:=H.rep;have hm:=F.hm;have hhm:=F.hhm;have hp9:=F.hp9;have hN:=F.hN;have a4:=F.a4;have ho9:∀a,actM (moOf m) 35 a s=({s with ops:=s.drops 2,data:=writeN s.data (topW s 1) (bytesN s.data (topW s 0) a),pc:=s.pc+1},touN (moOf m).size (topW s 0) a false++touN (moOf m).size (topW s 1) a true):=fun a=>rfl;rw[ho9];have ha9:=F.ha9;obtain⟨l,x,y,hl⟩:=pop2_of (l:=s.ops) (by have:=F.htk3;rw[c]at this;have e9:takesOf 35=2:=(by decide+kernel);omega);obtain⟨ol1,ol2',ol3⟩:=F.ol2 l x y hl;obtain⟨tw1,tw2,tw3,tw4⟩:=topW_two hl;rw[tw1,tw2,tw3,←hN];exact(copy_ok hm hl ol2' ol3 ol1 hp9 35 (argAt m.code s.pc) (by have:=F.harg;rw[c,most35]at this;omega)).mono fun e w' ha=>stepOk h hr ha (by show s.life≠3;rw[h1];decide)
theorem act_br_eq (mo:Mo) (o a:Nat) (s:St) (h1:13≤o) (h2:o≤28):actM mo o a s=({s with ops:=s.drops 2,pc:=if hoB o (topW s 1) (topW s 0)then a else s.pc+1},[]):=by
 unfold actM;rw[if_neg (by omega),if_neg (by omega),if_neg (by omega),if_neg (by omega),if_neg (by omega),if_neg (by omega),if_neg (by omega),if_neg (by omega),if_neg (by omega),if_neg (by omega),if_neg (by omega),if_neg (by omega),if_pos h2]
theorem act_br (H:AH w0 w b K s vo R M vt logs tou evs lg gr mb m reps) (c1:13≤opAt m.code s.pc) (c2:opAt m.code s.pc≤28):Calls Tryz.prog (actF (opAt m.code s.pc)) #[.pointer (some ⟨b,0,none⟩),.agg #[.int .u8 ((opAt m.code s.pc):Nat),.int .u32 (argAt m.code s.pc)]] w (ActStep w0 b K s R M logs tou evs lg vo vt w ⟨(actM (moOf m) (opAt m.code s.pc) (argAt m.code s.pc) s).1,(actM (moOf m) (opAt m.code s.pc) (argAt m.code s.pc) s).2,[],reps⟩):=by
 have F:=H.f;have hst:=H.st;have h:=H.x;have hh:=H.home;have hwf:=H.wf;have h1:=H.l1;have hr:=H.rep;have hm:=F.hm;have hhm:=F.hhm;have hp9:=F.hp9;have hN:=F.hN;have a4:=F.a4;rw[act_br_eq (moOf m) (opAt m.code s.pc) (argAt m.code s.pc) s c1 c2];obtain⟨l,x,y,hl⟩:=pop2_of (l:=s.ops) (by have:=F.htk3;have e9:takesOf (opAt m.code s.pc)=2:=(show∀o<60,1≤o→13≤o→o≤28→takesOf o=2 from(by decide+kernel)) _ (Nat.lt_succ_of_le F.hop.2) F.hop.1 c1 c2;omega);obtain⟨ol1,ol2',ol3⟩:=F.ol2 l x y hl;obtain⟨tw1,tw2,tw3,tw4⟩:=topW_two hl;rw[tw1,tw2,tw3];have hF:actF (opAt m.code s.pc)=91:=by unfold actF;rw[if_neg (by omega),if_pos c2]
 rw[hF];exact(branch_ok hm hl ol1 hp9 (opAt m.code s.pc) (argAt m.code s.pc) c1 c2).mono fun e w' ha=>stepOk h hr ha (by show s.life≠3;rw[h1];decide)
theorem act_un_eq (mo:Mo) (o a:Nat) (s:St) (h1:36≤o) (h2:isUnOp o=true):actM mo o a s=({s with ops:=s.drops 1++[unW o (topW s 0)],pc:=s.pc+1},[]):=by
 unfold actM;rw[if_neg (by omega),if_neg (by omega),if_neg (by omega),if_neg (by omega),if_neg (by omega),if_neg (by omega),if_neg (by omega),if_neg (by omega),if_neg (by omega),if_neg (by omega),if_neg (by omega),if_neg (by omega),if_neg (by omega),if_neg (by omega),if_neg (by omega),if_neg (by omega),if_pos h2]
theorem act_un (H:AH w0 w b K s vo R M vt logs tou evs lg gr mb m reps) (c1:36≤opAt m.code s.pc) (c2:isUnOp (opAt m.code s.pc)=true):Calls Tryz.prog (actF (opAt m.code s.pc)) #[.pointer (some ⟨b,0,none⟩),.agg #[.int .u8 ((opAt m.code s.pc):Nat),.int .u32 (argAt m.code s.pc)]] w (ActStep w0 b K s R M logs tou evs lg vo vt w ⟨(actM (moOf m) (opAt m.code s.pc) (argAt m.code s.pc) s).1,(actM (moOf m) (opAt m.code s.pc) (argAt m.code s.pc) s).2,[],reps⟩):=by
 have F:=H.f;have hst:=H.st;have h:=H.x;have hh:=H.home;have hwf:=H.wf;have h1:=H.l1;have hr:=H.rep;have hm:=F.hm;have hhm:=F.hhm;have hp9:=F.hp9;have hN:=F.hN;have a4:=F.a4;rw[act_un_eq (moOf m) (opAt m.code s.pc) (argAt m.code s.pc) s c1 c2];obtain⟨l,x,hl⟩:=pop_of (l:=s.ops) (by have:=F.htk3;have e9:takesOf (opAt m.code s.pc)=1:=(show∀o<60,1≤o→36≤o→isUnOp o=true→takesOf o=1 from(by decide+kernel)) _ (Nat.lt_succ_of_le F.hop.2) F.hop.1 c1 c2;omega);obtain⟨ol1,ol2',ol3⟩:=F.ol l x hl;obtain⟨tw1,tw2⟩:=topW_one hl;rw[tw1,tw2];have hF:actF (opAt m.code s.pc)=90:=by unfold actF;rw[if_neg (by omega),if_neg (by omega),if_neg (by omega),if_pos c2]
 rw[hF];exact(unary_ok hm hl ol1 hp9 (opAt m.code s.pc) (argAt m.code s.pc)).mono fun e w' ha=>stepOk h hr ha (by show s.life≠3;rw[h1];decide)
theorem act_bi_eq (mo:Mo) (o a:Nat) (s:St) (h1:36≤o) (h2:¬isUnOp o=true):actM mo o a s=if(biR o (topW s 1) (topW s 0)).2≠0 then(s.flt 2,[])else({s with ops:=s.drops 2++[(biR o (topW s 1) (topW s 0)).1],pc:=s.pc+1},[]):=by
 unfold actM;rw[if_neg (by omega),if_neg (by omega),if_neg (by omega),if_neg (by omega),if_neg (by omega),if_neg (by omega),if_neg (by omega),if_neg (by omega),if_neg (by omega),if_neg (by omega),if_neg (by omega),if_neg (by omega),if_neg (by omega),if_neg (by omega),if_neg (by omega),if_neg (by omega),if_neg h2]
theorem act_bi (H:AH w0 w b K s vo R M vt logs tou evs lg gr mb m reps) (c1:36≤opAt m.code s.pc) (c2:¬isUnOp (opAt m.code s.pc)=true):Calls Tryz.prog (actF (opAt m.code s.pc)) #[.pointer (some ⟨b,0,none⟩),.agg #[.int .u8 ((opAt m.code s.pc):Nat),.int .u32 (argAt m.code s.pc)]] w (ActStep w0 b K s R M logs tou evs lg vo vt w ⟨(actM (moOf m) (opAt m.code s.pc) (argAt m.code s.pc) s).1,(actM (moOf m) (opAt m.code s.pc) (argAt m.code s.pc) s).2,[],reps⟩):=by
 have F:=H.f;have hst:=H.st;have h:=H.x;have hh:=H.home;have hwf:=H.wf;have h1:=H.l1;have hr:=H.rep;have hm:=F.hm;have hhm:=F.hhm;have hp9:=F.hp9;have hN:=F.hN;have a4:=F.a4;rw[act_bi_eq (moOf m) (opAt m.code s.pc) (argAt m.code s.pc) s c1 c2];obtain⟨l,x,y,hl⟩:=pop2_of (l:=s.ops) (by have:=F.htk3;have e9:takesOf (opAt m.code s.pc)=2:=(show∀o<60,1≤o→36≤o→¬isUnOp o=true→takesOf o=2 from(by decide+kernel)) _ (Nat.lt_succ_of_le F.hop.2) F.hop.1 c1 c2;omega);obtain⟨ol1,ol2',ol3⟩:=F.ol2 l x y hl;obtain⟨tw1,tw2,tw3,tw4⟩:=topW_two hl;rw[tw1,tw2,tw3];have hF:actF (opAt m.code s.pc)=92:=by unfold actF;rw[if_neg (by omega),if_neg (by omega),if_neg (by omega),if_neg c2]
 rw[hF];by_cases hz:(biR (opAt m.code s.pc) x y).2=0
 ·rw[if_neg (fun e=>e hz)]
  exact(binary_ok hm hl ol3 ol1 hp9 (opAt m.code s.pc) (argAt m.code s.pc) hz).mono fun e w' ha=>stepOk h hr ha (by show s.life≠3;rw[h1];decide)
 ·rw[if_pos hz]
  exact(binary_flt hm hl ol3 ol1 (opAt m.code s.pc) (argAt m.code s.pc) hz).mono fun e w' ha=>stepFlt hr ha
theorem act_5 (H:AH w0 w b K s vo R M vt logs tou evs lg gr mb m reps) (c5:opAt m.code s.pc=5) (hrf:repsFit reps=true) (hev:evs.length≤65536) (hwt:waitsM (moOf m) gr reps s=none) :
 Calls Tryz.prog (actF 5) #[.pointer (some ⟨b,0,none⟩),.agg #[.int .u8 (5:Nat),.int .u32 (argAt m.code s.pc)]] w (ActStep w0 b K s R M logs tou evs lg vo vt w (stepM (moOf m) gr reps s)):=by
 have F:=H.f;have hst:=H.st;have h:=H.x;have hh:=H.home;have hwf:=H.wf;have h1:=H.l1;have hr:=H.rep;have hm:=F.hm;have hhm:=F.hhm;have hp9:=F.hp9;have hN:=F.hN;have a4:=F.a4;have hsys:sysM (moOf m) s=if opAt m.code s.pc=5∧2147483648≤topW s 0 then some (4294967295 - topW s 0)else none:=rfl;obtain⟨l,x,hl⟩:=pop_of (l:=s.ops) (by have htk3:=F.htk3;rw[c5]at htk3;have:takesOf 5=1:=(by decide+kernel);omega);obtain⟨ol1,ol2',ol3⟩:=F.ol l x hl;obtain⟨tw1,tw2⟩:=topW_one hl;rw[tw1]at hsys;have hF5:actF 5=75:=rfl;rw[hF5];by_cases hx:2147483648≤x
 ·rw[if_pos ⟨c5,hx⟩]at hsys
  cases hg:grantedN gr (4294967295 - x)with
  | none=>
   rw[stepM_no hsys hg];refine call_sys hm hl ol1 hx ol2' 5 _ (fun W hW=>?_);refine(system_no (hm.below hW) (Bel.tr hh.b hW) hst.gate (by omega) hg).mono ?_;rintro e w'⟨rfl,hb⟩;have hm':=(hm.below (Bel.tr hW hb)).nil;exact⟨.inr ⟨_,rfl⟩,stepFlt hr ⟨rfl,vo,vt,hm'.o.m,hm'.o.o,hm'.mem,Fr.of (Bel.tr hW hb) _⟩⟩
  | some n=>
   obtain⟨r,rs,rfl⟩:=waits_nil hsys hg hwt;obtain⟨g0,g15⟩:=(show GrOk gr from by obtain⟨_,_,_,_,_,h⟩:=hst.gate;exact h).bd hg;obtain⟨k,rfl⟩:∃k:Nat,n=k:=⟨n.toNat,by omega⟩;rw[stepM_yes hsys hg,Int.toNat_natCast,tw2]
   have hrf1:repFits r.ws=true:=by
    unfold repsFit at hrf;rw[List.all_cons,Bool.and_eq_true]at hrf;exact hrf.1
   refine call_sys hm hl ol1 hx ol2' 5 _ (fun W hW=>?_);refine(system_yes (h.below hW) (hh.fr (Fr.of hW _)) hst.gate (by omega) hwf.sp hp9 hl ol1 hg (by omega) (hr.fr (Fr.of hW _)) hrf1 hev).mono ?_;rintro e w'⟨rfl,vo',vt',R',ua,hX,hr',e1,e2,hfr⟩;rw[hN]at hX;exact⟨.inl rfl,.inl ⟨by show s.life≠3;rw[h1];decide,rfl,vo',vt',R',_,hX,by simp,hr',e1,e2,(Fr.of hW _).trans hfr⟩⟩
 ·rw[if_neg (fun e=>hx e.2)]at hsys
  rw[stepM_none hsys];have e5:opAt (moOf m).im.code s.pc=5:=c5;rw[e5]
  show Calls _ _ _ _ (ActStep _ _ _ _ _ _ _ _ _ _ _ _ _ ⟨(callM (moOf m) s).1,(callM (moOf m) s).2,[],reps⟩)
  refine(call_act hm hhm hst.mod hst.md hl (by omega) ol1 hp9 hwf.sp 5 (argAt m.code s.pc)).mono ?_;intro e w' hc;unfold CallPost at hc;unfold callM;rw[tw1,tw2,show(s.ops.length:Int) - 1=(l.length:Int)from by omega];by_cases b1:(moOf m).begins x=false
  ·rw[if_pos b1]at hc⊢
   exact stepFlt hr hc
  ·rw[if_neg b1]at hc⊢
   by_cases b2:64<(l.length:Int)+(moOf m).need x
   ·rw[if_pos b2]at hc⊢
    exact stepFlt hr hc
   ·rw[if_neg b2]at hc⊢
    rw[hN]at hc;exact stepOk h hr hc (by show s.life≠3;rw[h1];decide)
theorem act_step (H:AH w0 w b K s vo R M vt logs tou evs lg gr mb m reps) (hrf:repsFit reps=true) (hev:evs.length≤65536) (hwt:waitsM (moOf m) gr reps s=none) :
 Calls Tryz.prog (actF (opAt m.code s.pc)) #[.pointer (some ⟨b,0,none⟩),.agg #[.int .u8 (opAt m.code s.pc),.int .u32 (argAt m.code s.pc)]] w (ActStep w0 b K s R M logs tou evs lg vo vt w (stepM (moOf m) gr reps s)):=by
 have hop:=H.f.hop;by_cases c5:opAt m.code s.pc=5
 ·have:=act_5 H c5 hrf hev hwt
  rw[←c5]at this;exact this
 have hsys:sysM (moOf m) s=none:=if_neg (fun e=>c5 e.1);rw[stepM_none hsys]
 show Calls _ _ _ _ (ActStep _ _ _ _ _ _ _ _ _ _ _ _ _ ⟨(actM (moOf m) (opAt m.code s.pc) (argAt m.code s.pc) s).1,(actM (moOf m) (opAt m.code s.pc) (argAt m.code s.pc) s).2,[],reps⟩)
 by_cases c28:13≤opAt m.code s.pc∧opAt m.code s.pc≤28
 ·exact act_br H c28.1 c28.2
 by_cases c36:36≤opAt m.code s.pc
 ·by_cases cu:isUnOp (opAt m.code s.pc)=true
  ·exact act_un H c36 cu
  ·exact act_bi H c36 cu
 have hc:opAt m.code s.pc=1∨opAt m.code s.pc=2∨opAt m.code s.pc=3∨opAt m.code s.pc=4∨opAt m.code s.pc=6∨opAt m.code s.pc=7∨opAt m.code s.pc=8∨opAt m.code s.pc=9∨opAt m.code s.pc=10∨opAt m.code s.pc=11∨opAt m.code s.pc=12∨opAt m.code s.pc=29∨opAt m.code s.pc=30∨opAt m.code s.pc=31∨opAt m.code s.pc=32∨opAt m.code s.pc=33∨opAt m.code s.pc=34∨opAt m.code s.pc=35:=by omega
 rcases hc with c|c|c|c|c|c|c|c|c|c|c|c|c|c|c|c|c|c
 ·have:=act_1 H c
  rw[←c]at this;exact this
 ·have:=act_2 H c
  rw[←c]at this;exact this
 ·have:=act_3 H c
  rw[←c]at this;exact this
 ·have:=act_4 H c
  rw[←c]at this;exact this
 ·have:=act_6 H c
  rw[←c]at this;exact this
 ·have:=act_7 H c
  rw[←c]at this;exact this
 ·have:=act_8 H c
  rw[←c]at this;exact this
 ·have:=act_9 H c
  rw[←c]at this;exact this
 ·have:=act_10 H c
  rw[←c]at this;exact this
 ·have:=act_11 H c
  rw[←c]at this;exact this
 ·have:=act_12 H c
  rw[←c]at this;exact this
 ·have:=act_29 H c
  rw[←c]at this;exact this
 ·have:=act_30 H c
  rw[←c]at this;exact this
 ·have:=act_31 H c
  rw[←c]at this;exact this
 ·have:=act_32 H c
  rw[←c]at this;exact this
 ·have:=act_33 H c
  rw[←c]at this;exact this
 ·have:=act_34 H c
  rw[←c]at this;exact this
 ·have:=act_35 H c
  rw[←c]at this;exact this
end
section
variable {P:Program}
theorem step_append_none {ops:Array Oper} {o:Oper} {a:Act} {w:World} {K:Act→World→Prop} {Q:Exit→Act→World→Prop} {E:Prop} (hgd:o.guard=none) (s x:Operand) (t:TypeId)
 (ho:o.op=.call {callee:=.builtin .append,args:=#[s,x],argTypes:=#[t,t]})
 (e:TypeId) (i:TypeInfo) (size:Nat) (ht:P.underlying t=some (.slice e)) (hi:P.info? e=some i)
 (v:Value) (n:Nat) (xs:List Value) (hs:a.eval s=v) (hown:w.ownsRow 0 e size v n xs) (hx:a.eval x=.slice none 0 0) (h:K (a.put o.dst v) w) :
 if Region.wanted o (yielded ops a.tmps)=true then Oper.wp P o a w K Q else E:=by
 have hw:Region.wanted o (yielded ops a.tmps)=true:=by simp[Region.wanted,hgd]
 rw[if_pos hw];have hrun:=run_append_owned_none (P:=P) (w:=w) 0 t o.type e i size ht hi v n xs hown;unfold Oper.wp;simp[execOp,ho,resolve,invoke,builtin,hs,hx,hrun,Result.andThen];exact h
end
theorem encT_take (l:List (Nat×Bool)):∀k,encT (l.take k)=(encT l).take (k*2):=by
 induction l with
 | nil=>intro k;simp[encT]
 | cons x l ih=>
  intro k;cases k with
  | zero=>simp[encT]
  | succ k=>rw[List.take_succ_cons,encT,encT,ih,show(k+1)*2=k*2+1+1 from by omega];rfl
section
variable {w0 w w':World} {b:Nat} {K:MacK} {s s':St} {vo vo':Value} {R:MacR} {M:MemK} {vt vt':Value} {logs:Bool} {tou tou':List (Nat×Bool)} {evs:List (Ev×Value)} {lg:List (Nat×Bool)}
theorem MachX.grewLog {W W1 w3:World} (h:MachX W b K s vo R M vt logs tou evs lg) (hb:Below W.heap.size W W1) {v9:Value} {lg':List (Nat×Bool)} (hg:Grew W1 w3 R.log v9) (hr:w3.ownsRow 0 66 2 v9 lg'.length (encT lg')) (hl:lg'.length≤65536) (hvt:vt.ownBlock=none) :
 MachX (w3.setCell ⟨b,73,none⟩ v9) b K s vo {R with log:=v9} M vt logs tou evs lg'∧Fr W (w3.setCell ⟨b,73,none⟩ v9) (allF b vo R M vt) (allF b vo {R with log:=v9} M vt):=by
 have hf:Fr W w3 (fun k=>R.log.ownBlock=some k) (fun k=>v9.ownBlock=some k):=(Fr.of hb _).trans (Fr.grew (F:=fun k=>R.log.ownBlock=some k) (fun g e=>e) hg (fun k hk=>.inr hk));have hm3:=h.m.fr' hf (fun k hk e=>h.lr_apart k e hk);have hea:∀y∈evs,w3.ownsRow 0 25 1 y.2 y.1.args.length (encN .u32 y.1.args):=fun y hy=>own_fr (h.ea y hy) hf (fun g e e2=>own_apart h.lr (h.ea y hy) (by decide) g e2 e);have hev:w3.ownsRow 0 42 4 R.events evs.length (encE evs):=own_fr h.ev hf (fun g e e2=>own_apart h.lr h.ev (by decide) g e2 e);have hb3:=hm3.o.m;have hmm:Mach (w3.setCell ⟨b,73,none⟩ v9) b K s vo {R with log:=v9} M vt logs tou:=hm3.put (R':={R with log:=v9}) rfl (hb3.setLog v9) rfl rfl;have hfs:Fr w3 (w3.setCell ⟨b,73,none⟩ v9) (fun k=>k=b) (fun k=>k=b):=Fr.setCell w3 (F:=fun k=>k=b) (a:=⟨b,73,none⟩) rfl v9;refine⟨⟨hmm,own_fr hev hfs (fun g e=>hb3.ne_own hev (by decide) e),fun y hy=>own_fr (hea y hy) hfs (fun g e=>hb3.ne_own (hea y hy) (by decide) e),h.eo,own_fr hr hfs (fun g e=>hb3.ne_own hr (by decide) e),hl,fun g e e2=>by rw[hvt]at e2;cases e2⟩,?_⟩;refine(hf.mono (G:=allF b vo R M vt) (G1:=allF b vo {R with log:=v9} M vt) (fun i e=>.inr (.inr e)) (fun i e=>?_)).trans (Fr.setCell w3 (F:=allF b vo {R with log:=v9} M vt) (a:=⟨b,73,none⟩) (.inl (.inl (.inl rfl))) v9);rcases e with e|e|e
 ·exact .inl (.inl e)
 ·exact .inl (.inr (.inl e))
 ·exact .inr e
def NotePost (b:Nat) (K:MacK) (s:St) (vo:Value) (R:MacR) (M:MemK) (vt:Value) (tou:List (Nat×Bool)) (evs:List (Ev×Value)) (lg:List (Nat×Bool)) (w:World) (e:Ending) (w':World):Prop:=
 e=.returned (.tuple #[])∧∃R' vt',MachX w' b K s vo R' M vt' R.on [] evs (touL R.on lg tou)∧R'.on=R.on∧R'.replies=R.replies∧R'.events=R.events∧Fr w w' (allF b vo R M vt) (allF b vo R' M vt')
theorem note_off (h:MachX w b K s vo R M vt R.on [] evs lg) (hon:R.on=false):Calls Tryz.prog 68 #[.pointer (some ⟨b,0,none⟩)] w (NotePost b K s vo R M vt [] evs lg w):=by
 have c72:=h.m.o.m.c72;simp only[macV]at c72;rw[hon]at c72;have HX:=Lib.hid h;have HO:=Lib.hid hon;clear h hon;go_enter Tryz.func68,Tryz.ntmps68;go_wp2_with fail
 go_end0
 refine⟨rfl,R,vt,?_,rfl,rfl,rfl,Fr.refl _ _⟩;rw[show touL R.on lg []=lg from touL_nil _ HX.out.ll];exact HX.out
theorem note_on (h:MachX w b K s vo R M vt R.on tou evs lg) (hon:R.on=true):Calls Tryz.prog 68 #[.pointer (some ⟨b,0,none⟩)] w (NotePost b K s vo R M vt tou evs lg w):=by
 have hmx:Tryz.prog.follows .mixedOrders=true:=by kernel_rfl
 obtain⟨ic,hic,hic0,hic1,hic2⟩:=info_parts inf159;have c72:=h.m.o.m.c72;simp only[macV]at c72;rw[hon]at c72;have c73:=h.m.o.m.c73;simp only[macV]at c73;obtain⟨la,lc,hlv,-⟩:=own_sl h.lr;rw[hlv]at c73;have c65:=h.m.c65;have HT:=Lib.hid (touched_mem h.m.mem);have HX:=Lib.hid h;have hL:=h.ll;have hTl:=h.m.mem.tl;have HLV:=Lib.hid hlv;have HON:=Lib.hid hon;obtain⟨L,hLl⟩:∃L,L=lg.length:=⟨_,rfl⟩;obtain⟨n,hnl⟩:∃n,n=tou.length:=⟨_,rfl⟩;rw[←hLl]at c73 hL;rw[←hnl]at hTl;have HLL:=Lib.hid hLl;have HNL:=Lib.hid hnl;have w1:IntKind.i64.wrap (65536 - (L:Int))=((65536 - L:Nat):Int):=by rw[IntWalk.i64_in _ (by omega)];omega
 clear h hon hlv hLl hnl;obtain⟨rm,hrm⟩:∃rm,rm=65536 - L:=⟨_,rfl⟩;rw[←hrm]at w1;have HRM:=Lib.hid hrm;clear hrm;go_enter Tryz.func68,Tryz.ntmps68;go_wp2_with fail;refine HT.out.mono ?_;rintro e w2⟨va,vc,hvt,rfl,hrow,hmem,hfr⟩;have hf1:Fr w w2 (memF M.p M.g vt) (memF M.p M.g (.slice none 0 0)):=hfr.mono (fun i e=>.inl e) (fun i e=>e.elim .inr (fun e=>e.elim (fun e=>.inl (.inr (.inl e))) (fun e=>by cases e)));have hX2:=HX.out.act (HX.out.m.liftM hmem hf1) (frM hf1 b vo);have hX2:MachX w2 b K s vo R M (.slice none 0 0) R.on [] evs lg:=hX2;have HX2:=Lib.hid hX2;have HF2:=Lib.hid (frA (frM hf1 b vo) R);have k73:=hX2.m.o.m.c73;simp only[macV]at k73;rw[HLV.out,←HLL.out]at k73;have kf:=hX2.m.o.m.cells.fz;rw[←HNL.out]at hrow hvt⊢;have HRow:=Lib.hid hrow;have HLr:=Lib.hid hX2.lr;rw[HLV.out,←HLL.out]at HLr;have hbl:=hX2.m.lt;obtain⟨hcs,hbh,hbr⟩:=hX2.m.o.m;have HBh:=Lib.hid hbh;have HBr:=Lib.hid hbr;have hbe:∀g,(Value.slice la L lc).ownBlock=some g→g≠b:=fun g e e2=>hX2.m.o.m.not_own hX2.lr (by decide) (by rw[HLV.out,←HLL.out,e,e2]);have HBe:=Lib.hid hbe
 have hval:va=none∧n=0∧vc=0∨∃g,va=some ⟨g,0,none⟩∧n≤vc∧g<w2.heap.size∧∀j,j<(encT tou).length→w2.cell? ⟨g,j,none⟩=(encT tou)[j]?:=by
  rcases hrow.2 with⟨e1,e2⟩|⟨g',cap,cur,e1,-,hg',hnc,-⟩
  ·rw[hvt]at e1;cases e1;exact .inl ⟨rfl,rfl,rfl⟩
  ·rw[hvt]at e1;cases e1
   refine .inr ⟨g',rfl,hnc,(Array.getElem?_eq_some_iff.1 hg').1,fun j hj=>?_⟩;have h3:=hrow.2;rcases h3 with⟨e1,e2⟩|⟨g2,cap2,cur2,e1,-,hg2,hn2,hm2,hs2,ht2⟩
   ·rw[hvt]at e1;cases e1
   ·rw[hvt]at e1;cases e1
    rw[cell_of_row w2 g' j cur2 66 (0,0) hg2,←ht2,List.getElem?_take,if_pos (by have:=hrow.1;omega)];simp
 clear hX2 hmem hfr hf1 hbh hbr hbe hrow c72 c73 c65;have h65:L+rm=65536:=by have:=HRM.out;omega
 rcases hval with⟨rfl,rfl,rfl⟩|⟨g,rfl,hnc,hgl,hcells⟩
 ·have hr0:min (rm:Int) 0=0:=by omega
  go_wp2_with fail;refine wp_region_held_drew (S:=fun _=>True) hmx trivial (fun hHeld=>?_);refine tk 0 hHeld ?_;refine tk 1 hHeld ?_;refine tk 2 hHeld ?_;refine tk 3 hHeld ?_;refine tk 5 hHeld ?_;refine tk 6 hHeld ?_;refine tk 7 hHeld ?_;refine tk 8 hHeld ?_;refine tk 9 hHeld ?_;refine tk 10 hHeld ?_;refine rd 4 _ fun K hK=>?_;go_simp;refine hK.out _ _ hHeld (fun _=>?_);clear hK K
  try simp only[Act.put,aT,aZ,aS]
  refine rd 11 ⟨some 30,.call {callee:=.builtin .append,args:=#[.tmp 23,.tmp 29],argTypes:=#[63,63]},_,_,_,none⟩ fun K hK=>?_;refine step_append_none rfl (.tmp 23) (.tmp 29) 63 rfl 66 ic 2 Tryz.underlying63 hic _ _ _ rfl (own_below HLr.out (Below.refl _ _).drew) rfl ?_;refine hK.out _ _ hHeld (fun _=>?_);clear hK K
  try simp only[Act.put,aT,aZ,aS]
  refine tk 12 hHeld ?_;refine tk 13 hHeld ?_;refine rd 14 ⟨none,.store 63 (.tmp 32) (.tmp 30),_,_,_,none⟩ fun K hK=>?_;go_simp;refine hK.out _ _ hHeld (fun _=>?_);clear hK K
  try simp only[Act.put,aT,aZ,aS]
  refine wpAnyH_done (by kernel_rfl) ?_ _
  go_end0
  have htou:tou=[]:=List.eq_nil_of_length_eq_zero HNL.out.symm;obtain⟨hX9,hF9⟩:=HX2.out.grewLog (lg':=lg) (Below.refl _ _) (Grew.refl w2 R.log) HX2.out.lr HX2.out.ll rfl;rw[show R.log=Value.slice la L lc from by rw[HLV.out,←HLL.out]]at hX9 hF9;refine⟨rfl,{R with log:=Value.slice la L lc},.slice none 0 0,?_,rfl,rfl,rfl,(HF2.out.trans hF9).drew⟩;rw[htou,touL_nil R.on HX2.out.ll];exact hX9.below (Below.refl _ _).drew
 ·have HCe:=Lib.hid hcells
  clear hcells;have h63:L+n≤maxLen:=by unfold maxLen;omega
  have h47:∀x,x≤n→(L+x)*8≤140737488355328:=fun x hx=>by omega
  have h64:∀x,x≤n→L+x≤maxLen:=fun x hx=>by omega
  obtain⟨q,hq⟩:∃q,q=min rm n:=⟨_,rfl⟩;have hmin:min (rm:Int) (n:Int)=(q:Int):=by omega
  have hle:q≤n:=by omega
  have hlei:(q:Int)≤(n:Int):=by omega
  have hle0:(0:Int)≤(q:Int):=by omega
  have HQm:=Lib.hid hq;clear hq;go_wp2_with fail;refine wp_region_held_drew (S:=fun _=>True) hmx trivial (fun hHeld=>?_);refine tk 0 hHeld ?_;refine tk 1 hHeld ?_;refine tk 2 hHeld ?_;refine tk 3 hHeld ?_;refine tk 5 hHeld ?_;refine tk 6 hHeld ?_;refine tk 7 hHeld ?_;refine tk 8 hHeld ?_;refine tk 9 hHeld ?_;refine tk 10 hHeld ?_;refine rd 4 _ fun K hK=>?_;go_simp;refine hK.out _ _ hHeld (fun _=>?_);clear hK K
  try simp only[Act.put,aT,aZ,aS]
  refine rd 11 ⟨some 30,.call {callee:=.builtin .append,args:=#[.tmp 23,.tmp 29],argTypes:=#[63,63]},_,_,_,none⟩ fun K hK=>?_;refine step_append_grew rfl (.tmp 23) (.tmp 29) 63 rfl 66 ic (.agg #[.int .u32 0,.bool false]) 2 8 Tryz.underlying63 hic hic0 hic1 hic2 rfl (by decide) _ _ _ rfl (own_below HLr.out (Below.refl _ _).drew) ⟨g,0,none⟩ q _ (encT (tou.take q)) rfl (by rw[encT_length,List.length_take];have:=HNL.out;omega) ?_ (fun u hu=>encT_one _ u hu) (h64 q hle) (h47 q hle) ?_
  ·intro j u hj
   have hj2:j<q*2:=by have:=(List.getElem?_eq_some_iff.1 hj).1;rw[encT_length,List.length_take]at this;omega
   rw[encT_take,List.getElem?_take,if_pos hj2]at hj;rw[show((⟨g,0,none⟩:Addr).add j)=⟨g,j,none⟩from by simp[Addr.add];omega];exact(HCe.out j (List.getElem?_eq_some_iff.1 hj).1).trans hj
  intro v3 w3 hr3 hg3 hn3;obtain⟨a3,c3,rfl,-⟩:=own_sl hr3;have HR3:=Lib.hid hr3;have HG3:=Lib.hid hg3;have hbh3:=(hg3.1.block b (by simpa using hbl) (fun e=>HBe.out _ e.symm rfl)).trans HBh.out;have z73:=(cell_of_row w3 b 73 _ _ _ hbh3).trans HBr.out.c73;have zf:=frozen_of_row w3 b 73 _ _ hbh3;have HB3:=Lib.hid hbh3;clear hbh3 hr3 hg3 hn3;refine hK.out _ _ hHeld (fun _=>?_);clear hK K
  try simp only[Act.put,aT,aZ,aS]
  refine tk 12 hHeld ?_;refine tk 13 hHeld ?_;refine rd 14 ⟨none,.store 63 (.tmp 32) (.tmp 30),_,_,_,none⟩ fun K hK=>?_;go_simp;refine hK.out _ _ hHeld (fun _=>?_);clear hK K
  try simp only[Act.put,aT,aZ,aS]
  refine wpAnyH_done (by kernel_rfl) ?_ _
  go_end0
  have hlg:touL R.on lg tou=lg++tou.take q:=by
   rw[HON.out];unfold touL;rw[if_pos rfl,List.take_append,List.take_of_length_le (by have:=HLL.out;omega)];congr 1;rw[HQm.out,HRM.out,HLL.out,HNL.out];rcases Nat.le_total (65536 - lg.length) tou.length with h|h
   ·rw[Nat.min_eq_left h]
   ·rw[Nat.min_eq_right h,List.take_of_length_le h,List.take_of_length_le (Nat.le_refl _)]
  obtain⟨hX9,hF9⟩:=HX2.out.grewLog (lg':=lg++tou.take q) (W1:=w2.drew) (Below.refl _ _).drew (by rw[show R.log=Value.slice la L lc from by rw[HLV.out,←HLL.out]];exact HG3.out) (by rw[encT_append,show(lg++tou.take q).length=L+q from by rw[List.length_append,List.length_take,←HNL.out,←HLL.out];omega];exact HR3.out) (by rw[List.length_append,List.length_take];have:=HQm.out;have:=HLL.out;omega) rfl;refine⟨rfl,{R with log:=.slice a3 (L+q) c3},.slice none 0 0,?_,rfl,rfl,rfl,HF2.out.trans hF9⟩;rw[hlg];exact hX9
end
theorem tmps255 (a b x y:Value):#[a,b]++((Array.replicate 27 undef).setIfInBounds 3 x).setIfInBounds 0 y=#[a,b,y,undef,undef,x,undef,undef,undef,undef,undef,undef,undef,undef,undef,undef,undef,undef,undef,undef,undef,undef,undef,undef,undef,undef,undef,undef,undef]:=by kernel_rfl
section
variable {w0 w w':World} {b:Nat}
theorem tk1_idle {q3 q1:Nat} {Φ:World→Prop} (h1:w.cell? ⟨q1,0,none⟩=some (.pointer (some ⟨b,0,none⟩)))
 (HN:Calls Tryz.prog 68 #[.pointer (some ⟨b,0,none⟩)] w fun e w'=>e=.returned (.tuple #[])∧Φ w') :
 CallsD Tryz.prog 67 #[.pointer (some ⟨q3,0,none⟩),.pointer (some ⟨q1,0,none⟩)] .returning w fun e u' w'=>e=.returned (.tuple #[])∧u'=.returning∧Φ w':=by
 have H:=Lib.hid HN;clear HN;refine callsD_of_wpS Tryz.func67 rfl fun c₀ cs hu=>?_;apply wpS_seq;apply wpS_seq;apply wpS_region;simp[wpOpsS,go_sem,recoverD,hu,Tryz.ntmps67,Exit.thenS];refine wpS_of_wp ?_;rw[tmps255];generalize hQ:(fun (e:Exit) (a':Act) (w':World)=>Exit.thenS _ _ e a' (c₀::cs) w')=Q;go_wp2_with fail;rw[←hQ];simp only[Exit.thenS];refine wpS_of_wp ?_;generalize hQ2:(fun (e:Exit) (a':Act) (w':World)=>bodyPostS Tryz.prog Tryz.f67 c₀ cs _ e a' _ w')=Q2;go_wp2_with fail;refine H.out.mono ?_;rintro e w9⟨rfl,hΦ⟩;have HΦ:=Lib.hid hΦ;clear hΦ;go_wp2_with fail;rw[←hQ2];have hΦ:=HΦ.out;clear HΦ H hQ hQ2;cases c₀
 simp_all [bodyPostS,results,Tryz.results67]
theorem tk1_tassert (x:Int) (w:World):(Instr.typeAssert (.iface 39 (.int .u8 x)) 20 39 true).run Tryz.prog w=.ok (.tuple #[.int .u8 x,.bool true]) w:=by kernel_rfl
theorem tk1_neq (x:Int) (w:World):(binOp .neq 20 (.iface 39 (.int .u8 x)) .nilIface).run Tryz.prog w=.ok (.bool true) w:=by kernel_rfl
theorem tk1_panic {q3 q1 f:Nat} {va:Option Addr} {n c:Nat} {Φ:World→Prop} {cs0:Array Value} (hb:w.heap[b]?=some (.cells cs0 85 (0,0))) (hsz:cs0.size=76) (h1:w.cell? ⟨q1,0,none⟩=some (.pointer (some ⟨b,0,none⟩))) (h3:w.cell? ⟨q3,0,none⟩=some (.slice va n c)) (hn1:b≠q1) (hn3:b≠q3)
 (HN:Calls Tryz.prog 68 #[.pointer (some ⟨b,0,none⟩)] (((w.setCell ⟨b,69,none⟩ (.slice va n c)).setCell ⟨b,66,none⟩ (.int .u8 3)).setCell ⟨b,71,none⟩ (.int .u8 f)) fun e w'=>e=.returned (.tuple #[])∧Φ w') :
 CallsD Tryz.prog 67 #[.pointer (some ⟨q3,0,none⟩),.pointer (some ⟨q1,0,none⟩)] (.panicking (fltV f)) w fun e u' w'=>e=.returned (.tuple #[])∧u'=.panicking [{v:=.iface 39 (.int .u8 f),recovered:=true}]∧Φ w':=by
 have H:=Lib.hid HN;have hta:=tk1_tassert;have hnq:=tk1_neq
 have hc:∀j,j<76→∃v,w.cell? ⟨b,j,none⟩=some v:=fun j hj=>by
  rw[cell_of_row w b j _ _ _ hb];exact⟨_,Array.getElem?_eq_getElem (by omega)⟩
 have hz:=fun j=>frozen_of_row w b j _ _ hb;obtain⟨v69,c69⟩:=hc 69 (by decide);obtain⟨v66,c66⟩:=hc 66 (by decide);obtain⟨v71,c71⟩:=hc 71 (by decide);obtain⟨W9,hW9⟩:∃W9,W9=((w.setCell ⟨b,69,none⟩ (.slice va n c)).setCell ⟨b,66,none⟩ (.int .u8 3)).setCell ⟨b,71,none⟩ (.int .u8 f):=⟨_,rfl⟩;rw[←hW9]at H
 have k1:W9.cell? ⟨q1,0,none⟩=some (.pointer (some ⟨b,0,none⟩)):=by
  rw[hW9,World.cell?_of_block (Below.heap_setCell _ _ _ _ (fun e=>hn1 e.symm)),World.cell?_of_block (Below.heap_setCell _ _ _ _ (fun e=>hn1 e.symm)),World.cell?_of_block (Below.heap_setCell _ _ _ _ (fun e=>hn1 e.symm))];exact h1
 clear HN hb hsz hc;refine callsD_of_wpS Tryz.func67 rfl fun c₀ cs hu=>?_;apply wpS_seq;apply wpS_seq;apply wpS_region;simp[wpOpsS,go_sem,recoverD,hu,Tryz.ntmps67,Exit.thenS,fltV];refine wpS_of_wp ?_;rw[tmps255];generalize hQ:(fun (e:Exit) (a':Act) (w':World)=>Exit.thenS _ _ e a' _ w')=Q;go_wp2_with fail;rw[←hW9];rw[←hQ];simp only[Exit.thenS];refine wpS_of_wp ?_;generalize hQ2:(fun (e:Exit) (a':Act) (w':World)=>bodyPostS Tryz.prog Tryz.f67 c₀ cs _ e a' _ w')=Q2;clear hW9;go_wp2_with fail;refine H.out.mono ?_;rintro e w9⟨rfl,hΦ⟩;have HΦ:=Lib.hid hΦ;clear hΦ;go_wp2_with fail;rw[←hQ2];have hΦ:=HΦ.out;clear HΦ H hQ hQ2;cases c₀
 simp_all [bodyPostS,results,Tryz.results67]
end
section
variable {w0 w w' w9:World} {b:Nat} {K:MacK} {s s':St} {vo vo':Value} {R:MacR} {M:MemK} {vt vt':Value} {logs:Bool} {tou tou':List (Nat×Bool)} {evs:List (Ev×Value)} {lg:List (Nat×Bool)} {reps:List Rep}
theorem note_any (h:MachX w b K s vo R M vt R.on tou evs lg) (hoff:R.on=false→tou=[]):Calls Tryz.prog 68 #[.pointer (some ⟨b,0,none⟩)] w (NotePost b K s vo R M vt tou evs lg w):=by
 cases hon:R.on with
 | false=>
  have:=hoff hon;subst this;exact note_off h hon
 | true=>exact note_on h hon
theorem touL_in (on:Bool) (lg t:List (Nat×Bool)) (hl:lg.length≤65536):touL on lg (touL on [] t)=touL on lg t:=by
 cases on
 ·rfl
 ·unfold touL
  simp only[if_true,List.nil_append];rw[List.take_append,List.take_append,List.take_take];congr 2;exact Nat.min_eq_left (by omega)
theorem flt_back (h:MachX w b K s vo R M vt logs tou evs lg) {f:Nat} {t:List (Nat×Bool)} {e:Ending} (ha:ActFlt b K s R M logs tou vo vt w f t e w9) :
 ∃vt',MachX (((w9.setCell ⟨b,69,none⟩ vo).setCell ⟨b,66,none⟩ (.int .u8 3)).setCell ⟨b,71,none⟩ (.int .u8 f)) b K (s.flt f) vo R M vt' logs (touL logs tou t) evs lg∧
  Fr w (((w9.setCell ⟨b,69,none⟩ vo).setCell ⟨b,66,none⟩ (.int .u8 3)).setCell ⟨b,71,none⟩ (.int .u8 f)) (allF b vo R M vt) (allF b vo R M vt'):=by
 obtain⟨-,vo',vt',hb,hrow,hmem,hf⟩:=ha;have hb1:=((hb.setOps vo).setLife 3).setFault f;have hcs:=hb;obtain⟨cs,hcs,-⟩:=hcs;have hne:∀g,vo.ownBlock=some g→g≠b:=fun g e e2=>not_row_of hrow hcs (by decide) (by rw[e,e2])
 have hmb:∀k,memF M.p M.g vt' k→¬k=b:=by
  rintro k (rfl|rfl|hk) e
  ·have:=hmem.hp;rw[e,hcs]at this;simp at this
  ·exact not_row_of hmem.row hcs (by decide) (by rw[e];rfl)
  ·exact not_row_of hmem.tr hcs (by decide) (by rw[hk,e])
 have hfs:Fr w9 (((w9.setCell ⟨b,69,none⟩ vo).setCell ⟨b,66,none⟩ (.int .u8 3)).setCell ⟨b,71,none⟩ (.int .u8 f)) (fun k=>k=b) (fun k=>k=b):=
  ((Fr.setCell w9 (F:=fun k=>k=b) (a:=⟨b,69,none⟩) rfl _).trans (Fr.setCell _ (F:=fun k=>k=b) (a:=⟨b,66,none⟩) rfl _)).trans (Fr.setCell _ (F:=fun k=>k=b) (a:=⟨b,71,none⟩) rfl _)
 have hm:Mach (((w9.setCell ⟨b,69,none⟩ vo).setCell ⟨b,66,none⟩ (.int .u8 3)).setCell ⟨b,71,none⟩ (.int .u8 f)) b K (s.flt f) vo R M vt' logs (touL logs tou t):=
  ⟨⟨hb1,own_fr hrow hfs hne⟩,hmem.fr hfs hmb,h.m.km⟩
 have hfr:Fr w (((w9.setCell ⟨b,69,none⟩ vo).setCell ⟨b,66,none⟩ (.int .u8 3)).setCell ⟨b,71,none⟩ (.int .u8 f)) (machF b vo M vt) (machF b vo M vt'):=
  hf.trans (hfs.mono (fun i e=>.inl (.inl e)) (fun i e=>.inl e))
 exact⟨vt',h.act hm hfr,frA hfr R⟩
theorem actF_cases {o:Nat} (h1:1≤o) (h2:o≤59):71≤actF o∧actF o≤92:=by
 unfold actF
 split
 ·omega
 split
 ·omega
 split
 ·omega
 split<;>omega
theorem callAct {o:Nat} (h1:1≤o) (h2:o≤59) (args:Array Value) (W:World):(callFunc (actF o) args).run Tryz.prog W=.ok (.enter (actF o) args) W:=by
 obtain⟨a1,a2⟩:=actF_cases h1 h2;generalize actF o=f at*;have:f=71∨f=72∨f=73∨f=74∨f=75∨f=76∨f=77∨f=78∨f=79∨f=80∨f=81∨f=82∨f=83∨f=84∨f=85∨f=86∨f=87∨f=88∨f=89∨f=90∨f=91∨f=92:=by omega
 rcases this with rfl|rfl|rfl|rfl|rfl|rfl|rfl|rfl|rfl|rfl|rfl|rfl|rfl|rfl|rfl|rfl|rfl|rfl|rfl|rfl|rfl|rfl<;>simp[go_sem]
theorem MacB.cact {V:MacV} (h:MacB w b K V) {i:Nat} (hi:i<60):w.cell? ⟨b,3+i,none⟩=some (K.acts i):=by
 obtain⟨cs,h,r⟩:=h;exact(cell_of_row w b (3+i) _ _ _ h).trans (r.acts i hi)
def TakePost' (w0:World) (b:Nat) (K:MacK) (R:MacR) (M:MemK) (evs:List (Ev×Value)) (lg:List (Nat×Bool)) (vo vt:Value) (w:World) (p:Stp) (e:Ending) (w':World):Prop:=
 e=.returned (.tuple #[])∧∃vo' vt' R' evs',MachX w' b K p.st vo' R' M vt' R.on [] evs' (touL R.on lg p.tou)∧evs'.map (·.1)=evs.map (·.1)++p.ev∧RepsS w' (allF b vo' R' M vt') R'.replies p.reps∧R'.on=R.on∧Fr w w' (allF b vo R M vt) (allF b vo' R' M vt')
end
theorem tinfo122:(Tryz.prog.info? 106).map (·.size)=some 2:=by kernel_rfl
theorem tinfo23:(Tryz.prog.info? 23).map (·.size)=some 1:=by kernel_rfl
def TkS (w:World) (b cg nc cc no vc:Nat) (va:Option Addr) (pc o a:Nat) (W:World):Prop:=(((W.cell? ⟨w.heap.size,0,none⟩=some (.pointer (some ⟨b,0,none⟩))∧W.cell? ⟨b,2,none⟩=some (.slice (some ⟨cg,0,none⟩) nc cc))∧(W.cell? ⟨b,67,none⟩=some (.int .u32 pc)∧W.cell? ⟨b,69,none⟩=some (.slice va no vc)))∧(W.cell? ⟨cg,pc*2,none⟩=some (.int .u8 o)∧W.cell? ⟨cg,pc*2+1,none⟩=some (.int .u32 a)))
theorem TkS.keep {w:World} {b cg nc cc no vc:Nat} {va:Option Addr} {pc o a:Nat} {W W':World} (h:TkS w b cg nc cc no vc va pc o a W) (hb:Below W.heap.size W W'):TkS w b cg nc cc no vc va pc o a W':=by
 have k:∀{p:Addr} {v:Value},W.cell? p=some v→W'.cell? p=some v:=fun hv=>(hb.cell (World.block_lt_of_cell? _ _ hv)).trans hv;exact⟨⟨⟨k h.1.1.1,k h.1.1.2⟩,⟨k h.1.2.1,k h.1.2.2⟩⟩,⟨k h.2.1,k h.2.2⟩⟩
section
variable {w0 w:World} {b:Nat} {K:MacK} {s:St} {vo:Value} {R:MacR} {M:MemK} {vt:Value} {evs:List (Ev×Value)} {lg:List (Nat×Bool)} {gr:List (Nat×Int)} {mb:Nat} {m:Img} {reps:List Rep}
theorem mtake_any (H:AH w0 w b K s vo R M vt R.on [] evs lg gr mb m reps) (hrf:repsFit reps=true) (hev:evs.length≤65536) (hwt:waitsM (moOf m) gr reps s=none) :
 Calls Tryz.prog 30 #[.pointer (some ⟨b,0,none⟩)] w (TakePost' w0 b K R M evs lg vo vt w (stepM (moOf m) gr reps s)):=by
 have hmx:Tryz.prog.follows .mixedOrders=true:=by kernel_rfl
 have hmf:∀(fn:Fn) (first cap:Array Value) (w:World),(Instr.makeFunc fn first cap).run Tryz.prog w=.ok (.func fn first cap) w:=fun _ _ _ _=>rfl;have F:=H.f;obtain⟨W1,hW1⟩:∃W1,W1=w.alloc (.cells #[.pointer (some ⟨b,0,none⟩)] 35):=⟨_,rfl⟩;have hb1:Below w.heap.size w W1:=by rw[hW1];exact Bel.new _ _
 have hh1:W1.heap[w.heap.size]?=some (.cells #[.pointer (some ⟨b,0,none⟩)] 35 (0,0)):=by rw[hW1];exact heap_alloc_new _ _
 have k1:=cell_of_row W1 w.heap.size 0 _ _ _ hh1;have hl1:w.heap.size<W1.heap.size:=(Array.getElem?_eq_some_iff.1 hh1).1;have hx1:=H.x.below hb1;have k2:=hx1.m.o.m.cells.c2;obtain⟨cg,cc,hcv,-,-,-,hcc⟩:=own_form (own_base (own_below H.st.code (H.home.b))) (show 0<m.code.length by have:=F.a1;omega);rw[hcv]at k2;have hc0:=(hcc (s.pc*2) (by rw[encI_length];have:=F.a1;omega)).trans (encI_op m.code s.pc F.a1);have hc1:=(hcc (s.pc*2+1) (by rw[encI_length];have:=F.a1;omega)).trans (encI_arg m.code s.pc F.a1);rw[show(m.code.getD s.pc (0,0)).1=opAt m.code s.pc from rfl]at hc0;rw[show(m.code.getD s.pc (0,0)).2=argAt m.code s.pc from rfl]at hc1;have d0:=(hb1.cell (p:=⟨cg,s.pc*2,none⟩) (World.block_lt_of_cell? _ _ hc0)).trans hc0;have d1:=(hb1.cell (p:=⟨cg,s.pc*2+1,none⟩) (World.block_lt_of_cell? _ _ hc1)).trans hc1;have k67:=hx1.m.o.m.cells.c67;have k69:=hx1.m.o.m.cells.c69;simp only[macV]at k67 k69;have ho9:w.ownsRow 0 25 1 vo s.ops.length (encN .u32 s.ops):=H.x.m.o.o;obtain⟨va,vc,hvo,-⟩:=own_sl ho9;rw[hvo]at k69;have HAc:=Lib.hid (fun W (hW:Below w.heap.size w W)=>act_step (w:=W) (⟨H.st,H.x.below hW,H.home.fr (Fr.of hW _),H.wf,H.l1,H.fit,H.rep.fr (Fr.of hW _)⟩:AH w0 W b K s vo R M vt R.on [] evs lg gr mb m reps) hrf hev hwt);have HX:=Lib.hid (fun W (hW:Below w.heap.size w W)=>H.x.below hW);have HFl:=Lib.hid H.x.flt;have HVO:=Lib.hid hvo;have HKa:=Lib.hid (H.st.acts _ F.hop.1 (Nat.lt_succ_of_le F.hop.2));have hcf:=fun args W=>callAct F.hop.1 F.hop.2 args W;have hop:=F.hop;have hLL:=H.x.ll;have hpn:(s.pc:Int)<(m.code.length:Int):=by have:=F.a1;omega
 have hp0:(0:Int)≤(s.pc:Int):=by omega
 have hpn2:s.pc<m.code.length:=F.a1;generalize stepM (moOf m) gr reps s=stp at*;generalize opAt m.code s.pc=o at*;generalize argAt m.code s.pc=a at*;generalize m.code.length=nc at*;obtain⟨no,hno⟩:∃no,no=s.ops.length:=⟨_,rfl⟩;rw[←hno]at k69;have HNO:=Lib.hid hno;obtain⟨f,hf⟩:∃f,f=actF o:=⟨_,rfl⟩;rw[←hf]at HKa hcf HAc;have hoi:(o:Int)<60:=by omega
 have ho0:(0:Int)≤(o:Int):=by omega
 have hHeld0:TkS w b cg nc cc no vc va s.pc o a W1.drew:=⟨⟨⟨k1,k2⟩,⟨k67,k69⟩⟩,⟨d0,d1⟩⟩;have HB1:=Lib.hid hb1;have HH1:=Lib.hid hh1;clear ho9 hx1 hcv hcc hc0 hc1 k1 k2 k67 k69 d0 d1 hvo F H hno hf hb1 hh1
 go_enter_defers Tryz.func30,Tryz.ntmps30
 go_wp2_with fail;rw[←hW1];clear hW1;refine wp_region_noPanic ?_;refine wp_region_held_drew (S:=fun W=>(((W.cell? ⟨w.heap.size,0,none⟩=some (.pointer (some ⟨b,0,none⟩))∧W.cell? ⟨b,2,none⟩=some (.slice (some ⟨cg,0,none⟩) nc cc))∧(W.cell? ⟨b,67,none⟩=some (.int .u32 s.pc)∧W.cell? ⟨b,69,none⟩=some (.slice va no vc)))∧(W.cell? ⟨cg,s.pc*2,none⟩=some (.int .u8 o)∧W.cell? ⟨cg,s.pc*2+1,none⟩=some (.int .u32 a)))) hmx hHeld0 (fun hHeld=>?_);refine tk 0 hHeld ?_;refine tk 1 hHeld ?_;refine tk 2 hHeld ?_;refine tk 3 hHeld ?_;refine tk 4 hHeld ?_;refine tk 5 hHeld ?_;refine tk 6 hHeld ?_;refine tk 7 hHeld ?_;refine tk 8 hHeld ?_;refine tk 9 hHeld ?_;refine tk 10 hHeld ?_;refine tk 11 hHeld ?_;refine tk 12 hHeld ?_;refine tk 13 hHeld ?_;refine wpAnyH_ready (rs:=[14,15]) (by kernel_rfl) (by simp) (AllReadyH.cons rfl (fun K hK=>?_) (AllReadyH.cons rfl (fun K hK=>?_) AllReadyH.nil))
 ·go_simp
  have hb2:Below W1.heap.size W1 (W1.alloc (.cells #[.int .u8 0,.int .u32 0] 106)).drew:=(Bel.new W1 (.cells #[.int .u8 0,.int .u32 0] 106)).drew;have hH2:=TkS.keep (W:=W1) hHeld0 hb2;refine hK.out _ _ hH2 (fun _=>?_);clear hK K
  try simp only[Act.put,aT,aZ,aS]
  refine rd 15 _ fun K hK=>?_;go_simp;have hb4:Below W1.heap.size W1 ((W1.alloc (.cells #[.int .u8 0,.int .u32 0] 106)).alloc (.cells #[.slice none 0 0] 23)).drew:=(Bel.al (Bel.new W1 (.cells #[.int .u8 0,.int .u32 0] 106)) (.cells #[.slice none 0 0] 23)).drew;have hH4:=TkS.keep (W:=W1) hHeld0 hb4;refine hK.out _ _ hH4 (fun _=>?_);clear hK K
  try simp only[Act.put,aT,aZ,aS]
  have ha1:((W1.alloc (.cells #[.int .u8 0,.int .u32 0] 106)).alloc (.cells #[.slice none 0 0] 23)).drew.heap[W1.heap.size]?=some (Obj.cells #[.int .u8 0,.int .u32 0] 106 (0,0)):=(Below.heap_alloc _ _ _ (by simp)).trans (heap_alloc_new W1 (.cells #[.int .u8 0,.int .u32 0] 106));have ha2:((W1.alloc (.cells #[.int .u8 0,.int .u32 0] 106)).alloc (.cells #[.slice none 0 0] 23)).drew.heap[W1.heap.size+1]?=some (Obj.cells #[.slice none 0 0] 23 (0,0)):=by(have:=heap_alloc_new (W1.alloc (.cells #[.int .u8 0,.int .u32 0] 106)) (.cells #[.slice none 0 0] 23);rw[show(W1.alloc (.cells #[.int .u8 0,.int .u32 0] 106)).heap.size=W1.heap.size+1 from by simp]at this;exact this)
  obtain⟨W4,hW4⟩:∃W4,W4=((W1.alloc (.cells #[.int .u8 0,.int .u32 0] 106)).alloc (.cells #[.slice none 0 0] 23)).drew:=⟨_,rfl⟩;rw[←hW4]at ha1 ha2 hb4 hH4⊢;clear hW4 hH2 hb2;obtain⟨q2,hq29⟩:∃q,q=W1.heap.size:=⟨_,rfl⟩;obtain⟨q3,hq39⟩:∃q,q=W1.heap.size+1:=⟨_,rfl⟩;rw[←hq29]at ha1⊢;rw[←hq39]at ha2;have e9:q2+1=q3:=by omega
  rw[e9];have hq23:q2≠q3:=by omega
  have hq2:W1.heap.size≤q2:=by omega
  have hq3:W1.heap.size≤q3:=by omega
  have hr2:=ha1;have hr3:=ha2;clear ha1 ha2 e9 hq29 hq39;refine rd 16 ⟨none,.store 106 (.tmp 2) (.tmp 13),_,_,_,none⟩ fun K hK=>?_;rw[if_pos (by rfl)];refine outs_wp (R:=fun v W'=>v=undef∧W'=W4.setRow q2 #[.int .u8 o,.int .u32 a]) (outs_store_row 106 (.tmp 2) (.tmp 13) rfl q2 _ rfl rfl 106 _ hr2 tinfo122 (by rfl) (by simp[Value.oneCell']) ⟨rfl,rfl⟩) ?_;rintro _ _⟨rfl,rfl⟩;have hr2b:(W4.setRow q2 #[.int .u8 o,.int .u32 a]).heap[q2]?=some (.cells #[.int .u8 o,.int .u32 a] 106 (0,0)):=setRow_heap _ _ _ _ _ _ hr2;have hr3b:(W4.setRow q2 #[.int .u8 o,.int .u32 a]).heap[q3]?=some (.cells #[.slice none 0 0] 23 (0,0)):=(setRow_other _ _ _ _ hq23.symm).trans hr3;have hb5:Below W1.heap.size W1 (W4.setRow q2 #[.int .u8 o,.int .u32 a]):=below_setRow hb4 _ hq2 _;have hH5:=TkS.keep (W:=W1) hHeld0 hb5;refine hK.out _ _ hH5 (fun _=>?_);clear hK K
  try simp only[Act.put,aT,aZ,aS]
  obtain⟨W5,hW5⟩:∃W5,W5=W4.setRow q2 #[.int .u8 o,.int .u32 a]:=⟨_,rfl⟩;rw[←hW5]at hr2b hr3b hb5 hH5⊢;clear hW5 hr2 hr3 hb4 hH4;refine rd 17 ⟨none,.store 23 (.tmp 3) (.tmp 17),_,_,_,none⟩ fun K hK=>?_;rw[if_pos (by rfl)];refine outs_wp (R:=fun v W'=>v=undef∧W'=W5.setRow q3 #[.slice va no vc]) (outs_store_one 23 (.tmp 3) (.tmp 17) rfl q3 _ rfl rfl rfl 23 _ hr3b tinfo23 ⟨rfl,rfl⟩) ?_;rintro _ _⟨rfl,rfl⟩;have hr3c:(W5.setRow q3 #[.slice va no vc]).heap[q3]?=some (.cells #[.slice va no vc] 23 (0,0)):=setRow_heap _ _ _ _ _ _ hr3b;have hr2c:(W5.setRow q3 #[.slice va no vc]).heap[q2]?=some (.cells #[.int .u8 o,.int .u32 a] 106 (0,0)):=(setRow_other _ _ _ _ hq23).trans hr2b;have hb6:Below W1.heap.size W1 (W5.setRow q3 #[.slice va no vc]):=below_setRow hb5 _ hq3 _;have hH6:=TkS.keep (W:=W1) hHeld0 hb6;refine hK.out _ _ hH6 (fun _=>?_);clear hK K
  try simp only[Act.put,aT,aZ,aS]
  refine wpAnyH_done (by kernel_rfl) ?_ _;refine NoPanic.normal ?_;obtain⟨W6,hW6⟩:∃W6,W6=W5.setRow q3 #[.slice va no vc]:=⟨_,rfl⟩;rw[←hW6]at hr3c hr2c hb6 hH6⊢;clear hW6 hr2b hr3b hb5 hH5 hHeld hHeld0;have hw6:Below w.heap.size w W6:=Bel.tr HB1.out hb6;have hx6:=HX.out W6 hw6;have ka:=hx6.m.o.m.cact (i:=o) (by omega);rw[HKa.out]at ka;have kq1:=hH6.1.1.1;have e20:=cell_of_row W6 q2 0 _ _ _ hr2c;have e21:=cell_of_row W6 q2 1 _ _ _ hr2c;have HAct:=Lib.hid (HAc.out W6.drew hw6.drew);have HW6:=Lib.hid hw6;have H3c:=Lib.hid hr3c;have H1c:=Lib.hid ((hb6.block _ hl1).trans HH1.out);have hq39:w.heap.size<q3:=by omega
  clear hx6 hr2c hr3c hb6 hH6 hw6;go_wp2_with fail
  skip
  refine wp_region_still_tail 9 hmx (by kernel_rfl) ?_;simp only[List.take_succ_cons,List.take_zero,List.drop_succ_cons,List.drop_zero]
  repeat still_step
  refine wpStill_nil ?_;change wpList _ _ _ _ _ W6.drew;go_wp2_with fail;refine HAct.out.mono ?_;rintro e w9 hact;have hfl1:¬allF b vo R M vt w.heap.size:=fun e=>Nat.lt_irrefl _ (HFl.out _ e);have hfl3:¬allF b vo R M vt q3:=fun e=>by have:=HFl.out _ e;omega
  rcases hact with⟨hl,rfl,vo',vt',R',evs',hX',hev',hr',hon',hlog',hfr'⟩|⟨f',hst',hev',hr',hflt⟩
  ·have k1':=cell_of_row w9 w.heap.size 0 _ _ _ (hfr'.row (H1c.out:W6.drew.heap[w.heap.size]?=_) hfl1)
   rw[←hon']at hX';have HN:=note_any hX' (fun h=>by rw[h];rfl);have HFr:=Lib.hid hfr';have HEv:=Lib.hid hev';have HRr:=Lib.hid hr';have HOn:=Lib.hid hon';have HNn:=Lib.hid HN;clear HN hX' hfr' hev' hr' hon' hlog' hl kq1 e20 e21 ka;go_wp2;refine leaves_cons (f:=67) (args:=#[.pointer (some ⟨q3,0,none⟩),.pointer (some ⟨w.heap.size,0,none⟩)]) (by simp) (by simp[go_sem]) ?_;refine(tk1_idle k1' HNn.out).mono ?_;rintro e u' w''⟨rfl,rfl,hN⟩
   have hT:TakePost' w0 b K R M evs lg vo vt w stp (.returned (.tuple #[])) w'':=by
    obtain⟨R2,vt2,hX2,h1,h2,h3,h4⟩:=hN;rw[HOn.out,touL_in _ _ _ hLL]at hX2;exact⟨rfl,vo',vt2,R2,evs',hX2,HEv.out,by rw[h2];exact HRr.out.fr h4,h1.trans HOn.out,(((Fr.of HW6.out _).drew).trans HFr.out).trans h4⟩
   generalize TakePost' w0 b K R M evs lg vo vt w stp=Ψ at*;simp[Leaves,settle,results,Tryz.results30,go_sem];exact hT
  ·obtain⟨vt2,hX10,hF10⟩:=flt_back (HX.out W6.drew HW6.out.drew) hflt
   obtain⟨rfl,vo',vt',hb9,hrow9,hmem9,hf9⟩:=hflt;obtain⟨cs0,hb9,hr9⟩:=hb9;have k1':=cell_of_row w9 w.heap.size 0 _ _ _ (hf9.row (H1c.out:W6.drew.heap[w.heap.size]?=_) (fun e=>hfl1 (.inl e)));have k3':=cell_of_row w9 q3 0 _ _ _ (hf9.row (H3c.out:W6.drew.heap[q3]?=_) (fun e=>hfl3 (.inl e)));have HN:=note_any hX10 (fun h=>by rw[h];rfl);rw[show vo=Value.slice va no vc from by rw[HVO.out,HNO.out]]at HN;have hlt:=HX.out W6 HW6.out;have hbq1:b≠w.heap.size:=fun e=>hfl1 (by rw[←e];exact .inl (.inl (.inl rfl)));have hbq3:b≠q3:=fun e=>hfl3 (by rw[←e];exact .inl (.inl (.inl rfl)));have HTk:=Lib.hid (tk1_panic (f:=f') hb9 hr9.size k1' k3' hbq1 hbq3 HN);have HF10:=Lib.hid hF10;have HSt:=Lib.hid hst';have HEv:=Lib.hid hev';have HRr:=Lib.hid hr';clear HN hX10 hF10 hev' hr' hst' kq1 e20 e21 ka hb9 hr9 hrow9 hmem9 hf9 hlt;go_wp2;refine leaves_cons (f:=67) (args:=#[.pointer (some ⟨q3,0,none⟩),.pointer (some ⟨w.heap.size,0,none⟩)]) (by simp) (by simp[go_sem]) ?_;refine HTk.out.mono ?_;rintro e u' w''⟨rfl,rfl,hN⟩
   have hT:TakePost' w0 b K R M evs lg vo vt w stp (.returned (.tuple #[])) w'':=by
    obtain⟨R2,vt3,hX2,h1,h2,h3,h4⟩:=hN;rw[touL_in _ _ _ hLL,←HSt.out]at hX2;rw[show Value.slice va no vc=vo from by rw[HVO.out,HNO.out]]at hX2 h4;exact⟨rfl,vo,vt3,R2,evs,hX2,by rw[HEv.out,List.append_nil],by rw[h2];exact HRr.out.fr (HF10.out.trans h4),h1,(((Fr.of HW6.out _).drew).trans HF10.out).trans h4⟩
   generalize TakePost' w0 b K R M evs lg vo vt w stp=Ψ at*;simp[Leaves,settle,results,Tryz.results30,go_sem];exact hT
 ·go_simp
  have hb2:Below W1.heap.size W1 (W1.alloc (.cells #[.slice none 0 0] 23)).drew:=(Bel.new W1 (.cells #[.slice none 0 0] 23)).drew;have hH2:=TkS.keep (W:=W1) hHeld0 hb2;refine hK.out _ _ hH2 (fun _=>?_);clear hK K
  try simp only[Act.put,aT,aZ,aS]
  refine rd 14 _ fun K hK=>?_;go_simp;have hb4:Below W1.heap.size W1 ((W1.alloc (.cells #[.slice none 0 0] 23)).alloc (.cells #[.int .u8 0,.int .u32 0] 106)).drew:=(Bel.al (Bel.new W1 (.cells #[.slice none 0 0] 23)) (.cells #[.int .u8 0,.int .u32 0] 106)).drew;have hH4:=TkS.keep (W:=W1) hHeld0 hb4;refine hK.out _ _ hH4 (fun _=>?_);clear hK K
  try simp only[Act.put,aT,aZ,aS]
  have ha1:((W1.alloc (.cells #[.slice none 0 0] 23)).alloc (.cells #[.int .u8 0,.int .u32 0] 106)).drew.heap[W1.heap.size]?=some (Obj.cells #[.slice none 0 0] 23 (0,0)):=(Below.heap_alloc _ _ _ (by simp)).trans (heap_alloc_new W1 (.cells #[.slice none 0 0] 23));have ha2:((W1.alloc (.cells #[.slice none 0 0] 23)).alloc (.cells #[.int .u8 0,.int .u32 0] 106)).drew.heap[W1.heap.size+1]?=some (Obj.cells #[.int .u8 0,.int .u32 0] 106 (0,0)):=by(have:=heap_alloc_new (W1.alloc (.cells #[.slice none 0 0] 23)) (.cells #[.int .u8 0,.int .u32 0] 106);rw[show(W1.alloc (.cells #[.slice none 0 0] 23)).heap.size=W1.heap.size+1 from by simp]at this;exact this)
  obtain⟨W4,hW4⟩:∃W4,W4=((W1.alloc (.cells #[.slice none 0 0] 23)).alloc (.cells #[.int .u8 0,.int .u32 0] 106)).drew:=⟨_,rfl⟩;rw[←hW4]at ha1 ha2 hb4 hH4⊢;clear hW4 hH2 hb2;obtain⟨q3,hq39⟩:∃q,q=W1.heap.size:=⟨_,rfl⟩;obtain⟨q2,hq29⟩:∃q,q=W1.heap.size+1:=⟨_,rfl⟩;rw[←hq39]at ha1⊢;rw[←hq29]at ha2;have e9:q3+1=q2:=by omega
  rw[e9];have hq23:q2≠q3:=by omega
  have hq2:W1.heap.size≤q2:=by omega
  have hq3:W1.heap.size≤q3:=by omega
  have hr3:=ha1;have hr2:=ha2;clear ha1 ha2 e9 hq39 hq29;refine rd 16 ⟨none,.store 106 (.tmp 2) (.tmp 13),_,_,_,none⟩ fun K hK=>?_;rw[if_pos (by rfl)];refine outs_wp (R:=fun v W'=>v=undef∧W'=W4.setRow q2 #[.int .u8 o,.int .u32 a]) (outs_store_row 106 (.tmp 2) (.tmp 13) rfl q2 _ rfl rfl 106 _ hr2 tinfo122 (by rfl) (by simp[Value.oneCell']) ⟨rfl,rfl⟩) ?_;rintro _ _⟨rfl,rfl⟩;have hr2b:(W4.setRow q2 #[.int .u8 o,.int .u32 a]).heap[q2]?=some (.cells #[.int .u8 o,.int .u32 a] 106 (0,0)):=setRow_heap _ _ _ _ _ _ hr2;have hr3b:(W4.setRow q2 #[.int .u8 o,.int .u32 a]).heap[q3]?=some (.cells #[.slice none 0 0] 23 (0,0)):=(setRow_other _ _ _ _ hq23.symm).trans hr3;have hb5:Below W1.heap.size W1 (W4.setRow q2 #[.int .u8 o,.int .u32 a]):=below_setRow hb4 _ hq2 _;have hH5:=TkS.keep (W:=W1) hHeld0 hb5;refine hK.out _ _ hH5 (fun _=>?_);clear hK K
  try simp only[Act.put,aT,aZ,aS]
  obtain⟨W5,hW5⟩:∃W5,W5=W4.setRow q2 #[.int .u8 o,.int .u32 a]:=⟨_,rfl⟩;rw[←hW5]at hr2b hr3b hb5 hH5⊢;clear hW5 hr2 hr3 hb4 hH4;refine rd 17 ⟨none,.store 23 (.tmp 3) (.tmp 17),_,_,_,none⟩ fun K hK=>?_;rw[if_pos (by rfl)];refine outs_wp (R:=fun v W'=>v=undef∧W'=W5.setRow q3 #[.slice va no vc]) (outs_store_one 23 (.tmp 3) (.tmp 17) rfl q3 _ rfl rfl rfl 23 _ hr3b tinfo23 ⟨rfl,rfl⟩) ?_;rintro _ _⟨rfl,rfl⟩;have hr3c:(W5.setRow q3 #[.slice va no vc]).heap[q3]?=some (.cells #[.slice va no vc] 23 (0,0)):=setRow_heap _ _ _ _ _ _ hr3b;have hr2c:(W5.setRow q3 #[.slice va no vc]).heap[q2]?=some (.cells #[.int .u8 o,.int .u32 a] 106 (0,0)):=(setRow_other _ _ _ _ hq23).trans hr2b;have hb6:Below W1.heap.size W1 (W5.setRow q3 #[.slice va no vc]):=below_setRow hb5 _ hq3 _;have hH6:=TkS.keep (W:=W1) hHeld0 hb6;refine hK.out _ _ hH6 (fun _=>?_);clear hK K
  try simp only[Act.put,aT,aZ,aS]
  refine wpAnyH_done (by kernel_rfl) ?_ _;refine NoPanic.normal ?_;obtain⟨W6,hW6⟩:∃W6,W6=W5.setRow q3 #[.slice va no vc]:=⟨_,rfl⟩;rw[←hW6]at hr3c hr2c hb6 hH6⊢;clear hW6 hr2b hr3b hb5 hH5 hHeld hHeld0;have hw6:Below w.heap.size w W6:=Bel.tr HB1.out hb6;have hx6:=HX.out W6 hw6;have ka:=hx6.m.o.m.cact (i:=o) (by omega);rw[HKa.out]at ka;have kq1:=hH6.1.1.1;have e20:=cell_of_row W6 q2 0 _ _ _ hr2c;have e21:=cell_of_row W6 q2 1 _ _ _ hr2c;have HAct:=Lib.hid (HAc.out W6.drew hw6.drew);have HW6:=Lib.hid hw6;have H3c:=Lib.hid hr3c;have H1c:=Lib.hid ((hb6.block _ hl1).trans HH1.out);have hq39:w.heap.size<q3:=by omega
  clear hx6 hr2c hr3c hb6 hH6 hw6;go_wp2_with fail
  skip
  refine wp_region_still_tail 9 hmx (by kernel_rfl) ?_;simp only[List.take_succ_cons,List.take_zero,List.drop_succ_cons,List.drop_zero]
  repeat still_step
  refine wpStill_nil ?_;change wpList _ _ _ _ _ W6.drew;go_wp2_with fail;refine HAct.out.mono ?_;rintro e w9 hact;have hfl1:¬allF b vo R M vt w.heap.size:=fun e=>Nat.lt_irrefl _ (HFl.out _ e);have hfl3:¬allF b vo R M vt q3:=fun e=>by have:=HFl.out _ e;omega
  rcases hact with⟨hl,rfl,vo',vt',R',evs',hX',hev',hr',hon',hlog',hfr'⟩|⟨f',hst',hev',hr',hflt⟩
  ·have k1':=cell_of_row w9 w.heap.size 0 _ _ _ (hfr'.row (H1c.out:W6.drew.heap[w.heap.size]?=_) hfl1)
   rw[←hon']at hX';have HN:=note_any hX' (fun h=>by rw[h];rfl);have HFr:=Lib.hid hfr';have HEv:=Lib.hid hev';have HRr:=Lib.hid hr';have HOn:=Lib.hid hon';have HNn:=Lib.hid HN;clear HN hX' hfr' hev' hr' hon' hlog' hl kq1 e20 e21 ka;go_wp2;refine leaves_cons (f:=67) (args:=#[.pointer (some ⟨q3,0,none⟩),.pointer (some ⟨w.heap.size,0,none⟩)]) (by simp) (by simp[go_sem]) ?_;refine(tk1_idle k1' HNn.out).mono ?_;rintro e u' w''⟨rfl,rfl,hN⟩
   have hT:TakePost' w0 b K R M evs lg vo vt w stp (.returned (.tuple #[])) w'':=by
    obtain⟨R2,vt2,hX2,h1,h2,h3,h4⟩:=hN;rw[HOn.out,touL_in _ _ _ hLL]at hX2;exact⟨rfl,vo',vt2,R2,evs',hX2,HEv.out,by rw[h2];exact HRr.out.fr h4,h1.trans HOn.out,(((Fr.of HW6.out _).drew).trans HFr.out).trans h4⟩
   generalize TakePost' w0 b K R M evs lg vo vt w stp=Ψ at*;simp[Leaves,settle,results,Tryz.results30,go_sem];exact hT
  ·obtain⟨vt2,hX10,hF10⟩:=flt_back (HX.out W6.drew HW6.out.drew) hflt
   obtain⟨rfl,vo',vt',hb9,hrow9,hmem9,hf9⟩:=hflt;obtain⟨cs0,hb9,hr9⟩:=hb9;have k1':=cell_of_row w9 w.heap.size 0 _ _ _ (hf9.row (H1c.out:W6.drew.heap[w.heap.size]?=_) (fun e=>hfl1 (.inl e)));have k3':=cell_of_row w9 q3 0 _ _ _ (hf9.row (H3c.out:W6.drew.heap[q3]?=_) (fun e=>hfl3 (.inl e)));have HN:=note_any hX10 (fun h=>by rw[h];rfl);rw[show vo=Value.slice va no vc from by rw[HVO.out,HNO.out]]at HN;have hlt:=HX.out W6 HW6.out;have hbq1:b≠w.heap.size:=fun e=>hfl1 (by rw[←e];exact .inl (.inl (.inl rfl)));have hbq3:b≠q3:=fun e=>hfl3 (by rw[←e];exact .inl (.inl (.inl rfl)));have HTk:=Lib.hid (tk1_panic (f:=f') hb9 hr9.size k1' k3' hbq1 hbq3 HN);have HF10:=Lib.hid hF10;have HSt:=Lib.hid hst';have HEv:=Lib.hid hev';have HRr:=Lib.hid hr';clear HN hX10 hF10 hev' hr' hst' kq1 e20 e21 ka hb9 hr9 hrow9 hmem9 hf9 hlt;go_wp2;refine leaves_cons (f:=67) (args:=#[.pointer (some ⟨q3,0,none⟩),.pointer (some ⟨w.heap.size,0,none⟩)]) (by simp) (by simp[go_sem]) ?_;refine HTk.out.mono ?_;rintro e u' w''⟨rfl,rfl,hN⟩
   have hT:TakePost' w0 b K R M evs lg vo vt w stp (.returned (.tuple #[])) w'':=by
    obtain⟨R2,vt3,hX2,h1,h2,h3,h4⟩:=hN;rw[touL_in _ _ _ hLL,←HSt.out]at hX2;rw[show Value.slice va no vc=vo from by rw[HVO.out,HNO.out]]at hX2 h4;exact⟨rfl,vo,vt3,R2,evs,hX2,by rw[HEv.out,List.append_nil],by rw[h2];exact HRr.out.fr (HF10.out.trans h4),h1,(((Fr.of HW6.out _).drew).trans HF10.out).trans h4⟩
   generalize TakePost' w0 b K R M evs lg vo vt w stp=Ψ at*;simp[Leaves,settle,results,Tryz.results30,go_sem];exact hT
end
theorem tinfo4:(Tryz.prog.info? 4).map (·.size)=some 1:=by kernel_rfl
section
variable {w0 w:World} {b:Nat} {K:MacK} {s:St} {vo:Value} {R:MacR} {M:MemK} {vt:Value} {logs:Bool} {tou:List (Nat×Bool)} {evs:List (Ev×Value)} {lg:List (Nat×Bool)} {gr:List (Nat×Int)}
theorem unseen_any {f:Nat} {caps:Array Value} {Ψ:World→Prop} (hcf:∀W,(callFunc f caps).run Tryz.prog W=.ok (.enter f caps) W)
 (HC:Calls Tryz.prog f caps w fun e w'=>e=.returned (.tuple #[])∧(∃vt' tou',MachX w' b K s vo R M vt' logs tou' evs lg)∧Ψ w') :
 Calls Tryz.prog 46 #[.pointer (some ⟨b,0,none⟩),.func (.func f) #[] caps] w fun e w'=>e=.returned (.tuple #[])∧∃w1,Ψ w1∧MachX w' b K s vo R M (.slice none 0 0) logs [] evs lg∧Fr w1 w' (fun x=>x=M.p) (fun x=>x=M.p):=by
 have hcf2:∀W,(callFunc f (#[]++#[]++caps)).run Tryz.prog W=.ok (.enter f caps) W:=fun W=>by simpa using hcf W
 have H:=Lib.hid HC;clear HC;go_enter Tryz.func46,Tryz.ntmps46;go_wp2_with fail;refine H.out.mono ?_;rintro e w1⟨rfl,⟨vt1,tou1,hX⟩,hΨ⟩;have HT:=Lib.hid (touched_mem hX.m.mem);have c65:=hX.m.c65;have HX:=Lib.hid hX;have HΨ:=Lib.hid hΨ;clear hX hΨ;go_wp2_with fail;refine HT.out.mono ?_;rintro e w2⟨va,vc,hvt,rfl,hrow,hmem,hfr⟩;have hf1:Fr w1 w2 (memF M.p M.g vt1) (memF M.p M.g (.slice none 0 0)):=hfr.mono (fun i e=>.inl e) (fun i e=>e.elim .inr (fun e=>e.elim (fun e=>.inl (.inr (.inl e))) (fun e=>by cases e)));have hX2:MachX w2 b K s vo R M (.slice none 0 0) logs [] evs lg:=HX.out.act (HX.out.m.liftM hmem hf1) (frM hf1 b vo);have HX2:=Lib.hid hX2;have HF:=Lib.hid hfr;clear hmem hfr hf1 hX2 hrow;go_wp2_with fail
 go_end0
 exact⟨rfl,w1,HΨ.out,HX2.out,HF.out⟩
theorem setRow_size (w:World) (g:Nat) (cs:Array Value):(w.setRow g cs).heap.size=w.heap.size:=by simp[World.setRow]
theorem MachX.fr' {w w':World} {F F':Nat→Prop} (h:MachX w b K s vo R M vt logs tou evs lg) (hf:Fr w w' F F') (hn:∀k,allF b vo R M vt k→¬F k) (ha:∀x∈evs,∀g,x.2.ownBlock=some g→¬F g):MachX w' b K s vo R M vt logs tou evs lg:=
 ⟨h.m.fr' hf (fun k hk=>hn k (.inl hk)),own_fr h.ev hf (fun g e=>hn g (.inr (.inl e))),fun x hx=>own_fr (h.ea x hx) hf (ha x hx),h.eo,own_fr h.lr hf (fun g e=>hn g (.inr (.inr e))),h.ll,h.lv⟩
theorem wt1_no (h:MachX w b K s vo R M vt logs tou evs lg) (hb0:Below w0.heap.size w0 w) (hg:GateAt w0 K.gate gr) {x:Nat} (hx:x<4294967296) (hs:s.sp<4294967296) (hn:grantedN gr x=none) {q1 q4 q6 q7:Nat}
 (hq1:w.heap[q1]?=some (.cells #[.pointer (some ⟨b,0,none⟩)] 35 (0,0))) (hq4:w.heap[q4]?=some (.cells #[.int .u32 x] 25 (0,0))) (hq6:w.heap[q6]?=some (.cells #[.slice none 0 0] 23 (0,0))) (hq7:w.heap[q7]?=some (.cells #[.bool false] 4 (0,0)))
 (ha1:¬allF b vo R M vt q1) (ha4:¬allF b vo R M vt q4) (ha6:¬allF b vo R M vt q6) (ha7:¬allF b vo R M vt q7) (h67:q6≠q7) (h16:q1≠q6) (h17:q1≠q7) (h46:q4≠q6) (h47:q4≠q7) :
 Calls Tryz.prog 65 #[.pointer (some ⟨q1,0,none⟩),.pointer (some ⟨q4,0,none⟩),.pointer (some ⟨q6,0,none⟩),.pointer (some ⟨q7,0,none⟩)] w fun e w'=>e=.returned (.tuple #[])∧(∃vt' tou',MachX w' b K s vo R M vt' logs tou' evs lg)∧w'.heap[q6]?=some (.cells #[.slice none 0 0] 23 (0,0))∧w'.heap[q7]?=some (.cells #[.bool false] 4 (0,0))∧Fr w w' (fun k=>allF b vo R M vt k∨k=q6∨k=q7) (fun k=>(allF b vo R M vt k∨k=q6∨k=q7)∨w.heap.size≤k):=by
 have hmx:Tryz.prog.follows .mixedOrders=true:=by kernel_rfl
 obtain⟨gb,mp,hgv,-⟩:=id hg;have k1:=h.m.o.m.cells.c1;rw[hgv]at k1;have k65:=h.m.c65;have k68:=h.m.o.m.cells.c68;simp only[macV]at k68;have hWd:=Lib.hid (words_no (hg.below hb0.drew) x s.sp hx hn (.pointer (some ⟨M.p,0,none⟩)));rw[hgv]at hWd;have HX:=Lib.hid h;have HQ1:=Lib.hid hq1;have HQ4:=Lib.hid hq4;have HQ6:=Lib.hid hq6;have HQ7:=Lib.hid hq7;have HA1:=Lib.hid ha1;have HA4:=Lib.hid ha4;have HA6:=Lib.hid ha6;have HA7:=Lib.hid ha7;have hA6w:∀{vt':Value},Fr w w (allF b vo R M vt) (allF b vo R M vt):=fun {vt'}=>Fr.refl _ _;have hl6:=(Array.getElem?_eq_some_iff.1 hq6).1;have hl7:=(Array.getElem?_eq_some_iff.1 hq7).1;have hHeld0:((w.drew.cell? ⟨q1,0,none⟩=some (.pointer (some ⟨b,0,none⟩))∧w.drew.cell? ⟨b,1,none⟩=some (.pointer (some ⟨gb,0,none⟩)))∧(w.drew.cell? ⟨b,65,none⟩=some (.pointer (some ⟨M.p,0,none⟩))∧w.drew.cell? ⟨b,68,none⟩=some (.int .u32 s.sp)))∧w.drew.cell? ⟨q4,0,none⟩=some (.int .u32 x):=⟨⟨⟨cell_of_row w q1 0 _ _ _ hq1,k1⟩,⟨k65,k68⟩⟩,cell_of_row w q4 0 _ _ _ hq4⟩;clear h hg hq1 hq4 hq6 hq7 ha1 ha4 ha6 ha7 k1 k65 k68 hA6w;go_enter Tryz.func65,Tryz.ntmps65;go_wp2_with fail;refine wp_region_held_drew (S:=fun W=>((W.cell? ⟨q1,0,none⟩=some (.pointer (some ⟨b,0,none⟩))∧W.cell? ⟨b,1,none⟩=some (.pointer (some ⟨gb,0,none⟩)))∧(W.cell? ⟨b,65,none⟩=some (.pointer (some ⟨M.p,0,none⟩))∧W.cell? ⟨b,68,none⟩=some (.int .u32 s.sp)))∧W.cell? ⟨q4,0,none⟩=some (.int .u32 x)) hmx hHeld0 (fun hHeld=>?_);refine tk 0 hHeld ?_;refine tk 1 hHeld ?_;refine tk 2 hHeld ?_;refine tk 3 hHeld ?_;refine tk 4 hHeld ?_;refine tk 5 hHeld ?_;refine tk 6 hHeld ?_;refine tk 7 hHeld ?_;refine tk 8 hHeld ?_;refine tk 9 hHeld ?_;refine tk 10 hHeld ?_;refine tk 11 hHeld ?_;refine tk 12 hHeld ?_;refine rd 13 _ fun K hK=>?_;go_simp;refine hWd.out.mono ?_;rintro e w1⟨rfl,rfl⟩;have hX1:=HX.out.below (Below.refl w.heap.size w).drew;have hF1:Fr w w.drew (allF b vo R M vt) (allF b vo R M vt):=(Fr.refl w _).drew;have hr6:w.drew.heap[q6]?=_:=HQ6.out;have hr7:w.drew.heap[q7]?=_:=HQ7.out;have hr1:w.drew.heap[q1]?=_:=HQ1.out;have hr4:w.drew.heap[q4]?=_:=HQ4.out;have hH1:=hHeld0;obtain⟨w1,hw1⟩:∃w1,w1=w.drew:=⟨_,rfl⟩;rw[←hw1]at hX1 hF1 hr6 hr7 hr1 hr4 hH1⊢;clear hw1;refine hK.out _ _ hH1 (fun _=>?_);clear hK K
 try simp only[Act.put,aT,aZ,aS]
 refine tk 14 hH1 ?_;refine tk 15 hH1 ?_;refine tk 16 hH1 ?_;refine rd 17 ⟨none,.store 23 (.tmp 2) (.tmp 19),_,_,_,none⟩ fun K hK=>?_;rw[if_pos (by rfl)];refine outs_wp (R:=fun v W'=>v=undef∧W'=w1.setRow q6 #[.slice none 0 0]) (outs_store_one 23 (.tmp 2) (.tmp 19) rfl q6 _ rfl rfl rfl 23 _ hr6 tinfo23 ⟨rfl,rfl⟩) ?_;rintro _ _⟨rfl,rfl⟩;have hF2:Fr w1 (w1.setRow q6 #[.slice none 0 0]) (fun k=>k=q6) (fun k=>k=q6):=⟨rfl,rfl,rfl,by rw[setRow_size];exact Nat.le_refl _,fun k hk hn=>setRow_other _ _ _ _ hn,fun k hk=>.inl hk⟩;have hA61:¬allF b vo R M vt q6:=fun e=>(hF1.foot q6 e).elim HA6.out (fun e=>by omega);have hA71:¬allF b vo R M vt q7:=fun e=>(hF1.foot q7 e).elim HA7.out (fun e=>by omega);have hX2:=hX1.fr' hF2 (fun k hk e=>hA61 (by rw[←e];exact hk)) (fun y hy g hg e=>not_row_of (hX1.ea y hy) hr6 (by decide) (by rw[hg,e]));have hr6b:(w1.setRow q6 #[.slice none 0 0]).heap[q6]?=some (.cells #[.slice none 0 0] 23 (0,0)):=setRow_heap _ _ _ _ _ _ hr6;have hr7b:=hF2.row hr7 h67.symm;have hr1b:=hF2.row hr1 h16;have hr4b:=hF2.row hr4 h46;have y1:=hX2.m.o.m.cells.c1;rw[hgv]at y1;have y65:=hX2.m.c65;have y68:=hX2.m.o.m.cells.c68;simp only[macV]at y68;obtain⟨w2,hw2⟩:∃w2,w2=w1.setRow q6 #[.slice none 0 0]:=⟨_,rfl⟩;rw[←hw2]at hF2 hX2 hr6b hr7b hr1b hr4b y1 y65 y68;have hH2:((w2.cell? ⟨q1,0,none⟩=some (.pointer (some ⟨b,0,none⟩))∧w2.cell? ⟨b,1,none⟩=some (.pointer (some ⟨gb,0,none⟩)))∧(w2.cell? ⟨b,65,none⟩=some (.pointer (some ⟨M.p,0,none⟩))∧w2.cell? ⟨b,68,none⟩=some (.int .u32 s.sp)))∧w2.cell? ⟨q4,0,none⟩=some (.int .u32 x):=⟨⟨⟨cell_of_row w2 q1 0 _ _ _ hr1b,y1⟩,⟨y65,y68⟩⟩,cell_of_row w2 q4 0 _ _ _ hr4b⟩;rw[←hw2];refine hK.out _ _ hH2 (fun _=>?_);clear hK K
 try simp only[Act.put,aT,aZ,aS]
 refine rd 18 ⟨none,.store 4 (.tmp 3) (.tmp 20),_,_,_,none⟩ fun K hK=>?_;rw[if_pos (by rfl)];refine outs_wp (R:=fun v W'=>v=undef∧W'=w2.setRow q7 #[.bool false]) (outs_store_one 4 (.tmp 3) (.tmp 20) rfl q7 _ rfl rfl rfl 4 _ hr7b tinfo4 ⟨rfl,rfl⟩) ?_;rintro _ _⟨rfl,rfl⟩;have hF3:Fr w2 (w2.setRow q7 #[.bool false]) (fun k=>k=q7) (fun k=>k=q7):=⟨rfl,rfl,rfl,by rw[setRow_size];exact Nat.le_refl _,fun k hk hn=>setRow_other _ _ _ _ hn,fun k hk=>.inl hk⟩;have hX3:=hX2.fr' hF3 (fun k hk e=>hA71 (by rw[←e];exact hk)) (fun y hy g hg e=>not_row_of (hX2.ea y hy) hr7b (by decide) (by rw[hg,e]));have hr7c:(w2.setRow q7 #[.bool false]).heap[q7]?=some (.cells #[.bool false] 4 (0,0)):=setRow_heap _ _ _ _ _ _ hr7b;have hr6c:=hF3.row hr6b h67;have hr1c:=hF3.row hr1b h17;have hr4c:=hF3.row hr4b h47;have y1:=hX3.m.o.m.cells.c1;rw[hgv]at y1;have y65:=hX3.m.c65;have y68:=hX3.m.o.m.cells.c68;simp only[macV]at y68;obtain⟨w3,hw3⟩:∃w3,w3=w2.setRow q7 #[.bool false]:=⟨_,rfl⟩;rw[←hw3]at hF3 hX3 hr7c hr6c hr1c hr4c y1 y65 y68;have hH3:((w3.cell? ⟨q1,0,none⟩=some (.pointer (some ⟨b,0,none⟩))∧w3.cell? ⟨b,1,none⟩=some (.pointer (some ⟨gb,0,none⟩)))∧(w3.cell? ⟨b,65,none⟩=some (.pointer (some ⟨M.p,0,none⟩))∧w3.cell? ⟨b,68,none⟩=some (.int .u32 s.sp)))∧w3.cell? ⟨q4,0,none⟩=some (.int .u32 x):=⟨⟨⟨cell_of_row w3 q1 0 _ _ _ hr1c,y1⟩,⟨y65,y68⟩⟩,cell_of_row w3 q4 0 _ _ _ hr4c⟩;rw[←hw3];refine hK.out _ _ hH3 (fun _=>?_);clear hK K
 try simp only[Act.put,aT,aZ,aS]
 refine wpAnyH_done (by kernel_rfl) ?_ _
 have hFF:Fr w w3 (fun k=>allF b vo R M vt k∨k=q6∨k=q7) (fun k=>(allF b vo R M vt k∨k=q6∨k=q7)∨w.heap.size≤k):=
  ⟨hF3.os.trans (hF2.os.trans hF1.os),hF3.tape.trans (hF2.tape.trans hF1.tape),hF3.output.trans (hF2.output.trans hF1.output),Nat.le_trans hF1.size (Nat.le_trans hF2.size hF3.size),
   fun k hk hn=>by
    have l1:=Nat.lt_of_lt_of_le hk hF1.size
    exact((hF3.block k (Nat.lt_of_lt_of_le l1 hF2.size) (fun e=>hn (.inr (.inr e)))).trans (hF2.block k l1 (fun e=>hn (.inr (.inl e))))).trans (hF1.block k hk (fun e=>hn (.inl e))),fun k hk=>hk⟩
 have HEND:=Lib.hid (And.intro hX3 (And.intro hr6c (And.intro hr7c hFF)));clear hX3 hr6c hr7c hFF hX1 hX2 hF1 hF2 hF3 hr6b hr7b hr1b hr4b hr1c hr4c hr6 hr7 hr1 hr4;go_wp2_with fail
 go_end0
 exact⟨rfl,⟨vt,_,HEND.out.1⟩,HEND.out.2.1,HEND.out.2.2.1,HEND.out.2.2.2⟩
theorem wt1_yes (h:MachX w b K s vo R M vt logs tou evs lg) (hb0:Below w0.heap.size w0 w) (hg:GateAt w0 K.gate gr) {x:Nat} (hx:x<4294967296) (hs:s.sp<4294967296) {n:Nat} (hn:grantedN gr x=some (n:Int)) (hn15:n≤15) {q1 q4 q6 q7:Nat}
 (hq1:w.heap[q1]?=some (.cells #[.pointer (some ⟨b,0,none⟩)] 35 (0,0))) (hq4:w.heap[q4]?=some (.cells #[.int .u32 x] 25 (0,0))) (hq6:w.heap[q6]?=some (.cells #[.slice none 0 0] 23 (0,0))) (hq7:w.heap[q7]?=some (.cells #[.bool false] 4 (0,0)))
 (ha1:¬allF b vo R M vt q1) (ha4:¬allF b vo R M vt q4) (ha6:¬allF b vo R M vt q6) (ha7:¬allF b vo R M vt q7) (h67:q6≠q7) (h16:q1≠q6) (h17:q1≠q7) (h46:q4≠q6) (h47:q4≠q7) :
 Calls Tryz.prog 65 #[.pointer (some ⟨q1,0,none⟩),.pointer (some ⟨q4,0,none⟩),.pointer (some ⟨q6,0,none⟩),.pointer (some ⟨q7,0,none⟩)] w fun e w'=>e=.returned (.tuple #[])∧(∃vt' tou',MachX w' b K s vo R M vt' logs tou' evs lg)∧∃aa ca,w'.heap[q6]?=some (.cells #[.slice aa n ca] 23 (0,0))∧w'.heap[q7]?=some (.cells #[.bool true] 4 (0,0))∧w'.ownsRow w.heap.size 25 1 (.slice aa n ca) n (encN .u32 (wordsM s.data s.sp n))∧
  Fr w w' (fun k=>allF b vo R M vt k∨k=q6∨k=q7) (fun k=>(allF b vo R M vt k∨k=q6∨k=q7)∨w.heap.size≤k):=by
 have hmx:Tryz.prog.follows .mixedOrders=true:=by kernel_rfl
 obtain⟨gb,mp,hgv,-⟩:=id hg;have k1:=h.m.o.m.cells.c1;rw[hgv]at k1;have k65:=h.m.c65;have k68:=h.m.o.m.cells.c68;simp only[macV]at k68;have hWd:=Lib.hid (words_yes (hg.below hb0.drew) (h.m.mem.below (Below.refl _ _).drew) x s.sp hx hs hn hn15);rw[hgv]at hWd;have HX:=Lib.hid h;have HQ1:=Lib.hid hq1;have HQ4:=Lib.hid hq4;have HQ6:=Lib.hid hq6;have HQ7:=Lib.hid hq7;have HA1:=Lib.hid ha1;have HA4:=Lib.hid ha4;have HA6:=Lib.hid ha6;have HA7:=Lib.hid ha7;have hA6w:∀{vt':Value},Fr w w (allF b vo R M vt) (allF b vo R M vt):=fun {vt'}=>Fr.refl _ _;have hl6:=(Array.getElem?_eq_some_iff.1 hq6).1;have hl7:=(Array.getElem?_eq_some_iff.1 hq7).1;have hHeld0:((w.drew.cell? ⟨q1,0,none⟩=some (.pointer (some ⟨b,0,none⟩))∧w.drew.cell? ⟨b,1,none⟩=some (.pointer (some ⟨gb,0,none⟩)))∧(w.drew.cell? ⟨b,65,none⟩=some (.pointer (some ⟨M.p,0,none⟩))∧w.drew.cell? ⟨b,68,none⟩=some (.int .u32 s.sp)))∧w.drew.cell? ⟨q4,0,none⟩=some (.int .u32 x):=⟨⟨⟨cell_of_row w q1 0 _ _ _ hq1,k1⟩,⟨k65,k68⟩⟩,cell_of_row w q4 0 _ _ _ hq4⟩;clear h hg hq1 hq4 hq6 hq7 ha1 ha4 ha6 ha7 k1 k65 k68 hA6w;go_enter Tryz.func65,Tryz.ntmps65;go_wp2_with fail;refine wp_region_held_drew (S:=fun W=>((W.cell? ⟨q1,0,none⟩=some (.pointer (some ⟨b,0,none⟩))∧W.cell? ⟨b,1,none⟩=some (.pointer (some ⟨gb,0,none⟩)))∧(W.cell? ⟨b,65,none⟩=some (.pointer (some ⟨M.p,0,none⟩))∧W.cell? ⟨b,68,none⟩=some (.int .u32 s.sp)))∧W.cell? ⟨q4,0,none⟩=some (.int .u32 x)) hmx hHeld0 (fun hHeld=>?_);refine tk 0 hHeld ?_;refine tk 1 hHeld ?_;refine tk 2 hHeld ?_;refine tk 3 hHeld ?_;refine tk 4 hHeld ?_;refine tk 5 hHeld ?_;refine tk 6 hHeld ?_;refine tk 7 hHeld ?_;refine tk 8 hHeld ?_;refine tk 9 hHeld ?_;refine tk 10 hHeld ?_;refine tk 11 hHeld ?_;refine tk 12 hHeld ?_;refine rd 13 _ fun K hK=>?_;go_simp;refine hWd.out.mono ?_;rintro e w1⟨vt1,vw,rfl,hrow,hmem,hfr⟩;obtain⟨aa,ca,rfl,-⟩:=own_sl hrow;have hfr0:Fr w w1 (memF M.p M.g vt) (wF M.p M.g vt1 (.slice aa n ca)):=((Fr.refl w _).drew).trans hfr;have hX1:=HX.out.act (HX.out.m.liftM hmem hfr0) (hfr0.mono (G:=machF b vo M vt) (G1:=machF b vo M vt1) (fun i e=>.inr e) (fun i e=>e.elim (fun e2=>.inl (.inl e2)) (fun e2=>.inr (.inl e2))));have hF1:Fr w w1 (allF b vo R M vt) (allF b vo R M vt1):=frA (hfr0.mono (G:=machF b vo M vt) (G1:=machF b vo M vt1) (fun i e=>.inr e) (fun i e=>e.elim (fun e2=>.inl (.inl e2)) (fun e2=>.inr (.inl e2)))) R;have hr6:=hF1.row HQ6.out HA6.out;have hr7:=hF1.row HQ7.out HA7.out;have hr1:=hF1.row HQ1.out HA1.out;have hr4:=hF1.row HQ4.out HA4.out;have y1:=hX1.m.o.m.cells.c1;rw[hgv]at y1;have y65:=hX1.m.c65;have y68:=hX1.m.o.m.cells.c68;simp only[macV]at y68;have hH1:((w1.cell? ⟨q1,0,none⟩=some (.pointer (some ⟨b,0,none⟩))∧w1.cell? ⟨b,1,none⟩=some (.pointer (some ⟨gb,0,none⟩)))∧(w1.cell? ⟨b,65,none⟩=some (.pointer (some ⟨M.p,0,none⟩))∧w1.cell? ⟨b,68,none⟩=some (.int .u32 s.sp)))∧w1.cell? ⟨q4,0,none⟩=some (.int .u32 x):=⟨⟨⟨cell_of_row w1 q1 0 _ _ _ hr1,y1⟩,⟨y65,y68⟩⟩,cell_of_row w1 q4 0 _ _ _ hr4⟩;have hb1:=hX1.m.lt;have hrow0:=own_base hrow;have hlow:∀g,(Value.slice aa n ca).ownBlock=some g→w.heap.size≤g:=fun g e=>(hrow.lt g e).1;refine hK.out _ _ hH1 (fun _=>?_);clear hK K
 try simp only[Act.put,aT,aZ,aS]
 refine tk 14 hH1 ?_;refine tk 15 hH1 ?_;refine tk 16 hH1 ?_;refine rd 17 ⟨none,.store 23 (.tmp 2) (.tmp 19),_,_,_,none⟩ fun K hK=>?_;rw[if_pos (by rfl)];refine outs_wp (R:=fun v W'=>v=undef∧W'=w1.setRow q6 #[.slice aa n ca]) (outs_store_one 23 (.tmp 2) (.tmp 19) rfl q6 _ rfl rfl rfl 23 _ hr6 tinfo23 ⟨rfl,rfl⟩) ?_;rintro _ _⟨rfl,rfl⟩;have hF2:Fr w1 (w1.setRow q6 #[.slice aa n ca]) (fun k=>k=q6) (fun k=>k=q6):=⟨rfl,rfl,rfl,by rw[setRow_size];exact Nat.le_refl _,fun k hk hn=>setRow_other _ _ _ _ hn,fun k hk=>.inl hk⟩;have hA61:¬allF b vo R M vt1 q6:=fun e=>(hF1.foot q6 e).elim HA6.out (fun e=>by omega);have hA71:¬allF b vo R M vt1 q7:=fun e=>(hF1.foot q7 e).elim HA7.out (fun e=>by omega);have hX2:=hX1.fr' hF2 (fun k hk e=>hA61 (by rw[←e];exact hk)) (fun y hy g hg e=>not_row_of (hX1.ea y hy) hr6 (by decide) (by rw[hg,e]));have hr6b:(w1.setRow q6 #[.slice aa n ca]).heap[q6]?=some (.cells #[.slice aa n ca] 23 (0,0)):=setRow_heap _ _ _ _ _ _ hr6;have hr7b:=hF2.row hr7 h67.symm;have hr1b:=hF2.row hr1 h16;have hr4b:=hF2.row hr4 h46;have y1:=hX2.m.o.m.cells.c1;rw[hgv]at y1;have y65:=hX2.m.c65;have y68:=hX2.m.o.m.cells.c68;simp only[macV]at y68;obtain⟨w2,hw2⟩:∃w2,w2=w1.setRow q6 #[.slice aa n ca]:=⟨_,rfl⟩;rw[←hw2]at hF2 hX2 hr6b hr7b hr1b hr4b y1 y65 y68;have hH2:((w2.cell? ⟨q1,0,none⟩=some (.pointer (some ⟨b,0,none⟩))∧w2.cell? ⟨b,1,none⟩=some (.pointer (some ⟨gb,0,none⟩)))∧(w2.cell? ⟨b,65,none⟩=some (.pointer (some ⟨M.p,0,none⟩))∧w2.cell? ⟨b,68,none⟩=some (.int .u32 s.sp)))∧w2.cell? ⟨q4,0,none⟩=some (.int .u32 x):=⟨⟨⟨cell_of_row w2 q1 0 _ _ _ hr1b,y1⟩,⟨y65,y68⟩⟩,cell_of_row w2 q4 0 _ _ _ hr4b⟩;rw[←hw2];refine hK.out _ _ hH2 (fun _=>?_);clear hK K
 try simp only[Act.put,aT,aZ,aS]
 refine rd 18 ⟨none,.store 4 (.tmp 3) (.tmp 20),_,_,_,none⟩ fun K hK=>?_;rw[if_pos (by rfl)];refine outs_wp (R:=fun v W'=>v=undef∧W'=w2.setRow q7 #[.bool true]) (outs_store_one 4 (.tmp 3) (.tmp 20) rfl q7 _ rfl rfl rfl 4 _ hr7b tinfo4 ⟨rfl,rfl⟩) ?_;rintro _ _⟨rfl,rfl⟩;have hF3:Fr w2 (w2.setRow q7 #[.bool true]) (fun k=>k=q7) (fun k=>k=q7):=⟨rfl,rfl,rfl,by rw[setRow_size];exact Nat.le_refl _,fun k hk hn=>setRow_other _ _ _ _ hn,fun k hk=>.inl hk⟩;have hX3:=hX2.fr' hF3 (fun k hk e=>hA71 (by rw[←e];exact hk)) (fun y hy g hg e=>not_row_of (hX2.ea y hy) hr7b (by decide) (by rw[hg,e]));have hr7c:(w2.setRow q7 #[.bool true]).heap[q7]?=some (.cells #[.bool true] 4 (0,0)):=setRow_heap _ _ _ _ _ _ hr7b;have hr6c:=hF3.row hr6b h67;have hr1c:=hF3.row hr1b h17;have hr4c:=hF3.row hr4b h47;have y1:=hX3.m.o.m.cells.c1;rw[hgv]at y1;have y65:=hX3.m.c65;have y68:=hX3.m.o.m.cells.c68;simp only[macV]at y68;obtain⟨w3,hw3⟩:∃w3,w3=w2.setRow q7 #[.bool true]:=⟨_,rfl⟩;rw[←hw3]at hF3 hX3 hr7c hr6c hr1c hr4c y1 y65 y68;have hH3:((w3.cell? ⟨q1,0,none⟩=some (.pointer (some ⟨b,0,none⟩))∧w3.cell? ⟨b,1,none⟩=some (.pointer (some ⟨gb,0,none⟩)))∧(w3.cell? ⟨b,65,none⟩=some (.pointer (some ⟨M.p,0,none⟩))∧w3.cell? ⟨b,68,none⟩=some (.int .u32 s.sp)))∧w3.cell? ⟨q4,0,none⟩=some (.int .u32 x):=⟨⟨⟨cell_of_row w3 q1 0 _ _ _ hr1c,y1⟩,⟨y65,y68⟩⟩,cell_of_row w3 q4 0 _ _ _ hr4c⟩;rw[←hw3];refine hK.out _ _ hH3 (fun _=>?_);clear hK K
 try simp only[Act.put,aT,aZ,aS]
 refine wpAnyH_done (by kernel_rfl) ?_ _
 have hFF:Fr w w3 (fun k=>allF b vo R M vt k∨k=q6∨k=q7) (fun k=>(allF b vo R M vt k∨k=q6∨k=q7)∨w.heap.size≤k):=
  ⟨hF3.os.trans (hF2.os.trans hF1.os),hF3.tape.trans (hF2.tape.trans hF1.tape),hF3.output.trans (hF2.output.trans hF1.output),Nat.le_trans hF1.size (Nat.le_trans hF2.size hF3.size),
   fun k hk hn=>by
    have l1:=Nat.lt_of_lt_of_le hk hF1.size
    exact((hF3.block k (Nat.lt_of_lt_of_le l1 hF2.size) (fun e=>hn (.inr (.inr e)))).trans (hF2.block k l1 (fun e=>hn (.inr (.inl e))))).trans (hF1.block k hk (fun e=>hn (.inl e))),fun k hk=>hk⟩
 have hrw2:=own_fr hrow0 hF2 (fun g e e2=>not_row_of hrow0 hr6 (by decide) (by rw[e,e2]));have hrw3:=own_fr hrw2 hF3 (fun g e e2=>not_row_of hrw2 hr7b (by decide) (by rw[e,e2]));have HEND:=Lib.hid (And.intro hX3 (And.intro hr6c (And.intro hr7c (And.intro (own_from hrw3 hlow) hFF))));clear hX3 hr6c hr7c hrw3 hrw2 hFF hX1 hX2 hrow hrow0 hF1 hF2 hF3 hr6b hr7b hr1b hr4b hr1c hr4c hr6 hr7 hr1 hr4;go_wp2_with fail
 go_end0
 exact⟨rfl,⟨vt1,_,HEND.out.1⟩,aa,ca,HEND.out.2.1,HEND.out.2.2.1,HEND.out.2.2.2.1,HEND.out.2.2.2.2⟩
end
theorem tinfo25:(Tryz.prog.info? 25).map (·.size)=some 1:=by kernel_rfl
theorem run_b62z (w:World):(Instr.build 42 #[]).run Tryz.prog w=.ok (.agg #[.int .u32 0,.int .u32 0,.slice none 0 0,.int .u32 0]) w:=by kernel_rfl
theorem run_b62w (x y:Int) (a:Option Addr) (n c:Nat) (w:World):(Instr.build 42 #[(0,.int .u32 x),(1,.int .u32 y),(2,.slice a n c)]).run Tryz.prog w=.ok (.agg #[.int .u32 x,.int .u32 y,.slice a n c,.int .u32 0]) w:=by kernel_rfl
def WaitPost (ow:Option Ev) (b:Nat) (K:MacK) (s:St) (vo:Value) (R:MacR) (M:MemK) (vt:Value) (evs:List (Ev×Value)) (lg:List (Nat×Bool)) (w:World) (e:Ending) (w':World):Prop:=
 ∃vt',MachX w' b K s vo R M vt' R.on [] evs lg∧Fr w w' (allF b vo R M vt) (allF b vo R M vt')∧
  (match ow with
  | none=>∃(x y z:Int) (aa:Option Addr) (n ca:Nat),e=.returned (.tuple #[.agg #[.int .u32 x,.int .u32 y,.slice aa n ca,.int .u32 z],.bool false])
  | some ev=>∃aa ca,e=.returned (.tuple #[.agg #[.int .u32 ev.at_,.int .u32 ev.num,.slice aa ev.args.length ca,.int .u32 0],.bool true])∧w'.ownsRow w.heap.size 25 1 (.slice aa ev.args.length ca) ev.args.length (encN .u32 ev.args))
section
variable {w0 w:World} {b:Nat} {K:MacK} {s:St} {vo:Value} {R:MacR} {M:MemK} {vt:Value} {evs:List (Ev×Value)} {lg:List (Nat×Bool)} {gr:List (Nat×Int)} {mb:Nat} {m:Img} {reps:List Rep}
theorem wait_op (H:AH w0 w b K s vo R M vt R.on [] evs lg gr mb m reps) (h5:opAt m.code s.pc≠5) :
 Calls Tryz.prog 29 #[.pointer (some ⟨b,0,none⟩)] w (WaitPost none b K s vo R M vt evs lg w):=by
 have hmx:Tryz.prog.follows .mixedOrders=true:=by kernel_rfl
 have hz:=zero62;have hbz:=run_b62z;have F:=H.f;obtain⟨W1,hW1⟩:∃W1,W1=(w.alloc (.cells #[.pointer (some ⟨b,0,none⟩)] 35)).alloc (.cells #[.int .u32 0,.int .u32 0,.slice none 0 0,.int .u32 0] 42):=⟨_,rfl⟩;have hb1:Below w.heap.size w W1:=by rw[hW1];exact Bel.al (Bel.new _ _) _
 have hh1:W1.heap[w.heap.size]?=some (.cells #[.pointer (some ⟨b,0,none⟩)] 35 (0,0)):=by rw[hW1,Below.heap_alloc _ _ _ (by simp)];exact heap_alloc_new _ _
 have hh2:W1.heap[w.heap.size+1]?=some (.cells #[.int .u32 0,.int .u32 0,.slice none 0 0,.int .u32 0] 42 (0,0)):=by
  rw[hW1];have:=heap_alloc_new (w.alloc (.cells #[.pointer (some ⟨b,0,none⟩)] 35)) (.cells #[.int .u32 0,.int .u32 0,.slice none 0 0,.int .u32 0] 42)
  simpa using this
 have k1:=cell_of_row W1 w.heap.size 0 _ _ _ hh1;have hl1:w.heap.size<W1.heap.size:=(Array.getElem?_eq_some_iff.1 hh1).1;have hl2:w.heap.size+1<W1.heap.size:=(Array.getElem?_eq_some_iff.1 hh2).1;have hx1:=H.x.below hb1;have k2:=hx1.m.o.m.cells.c2;obtain⟨cg,cc,hcv,-,-,-,hcc⟩:=own_form (own_base (own_below H.st.code (H.home.b))) (show 0<m.code.length by have:=F.a1;omega);rw[hcv]at k2;have hc0:=(hcc (s.pc*2) (by rw[encI_length];have:=F.a1;omega)).trans (encI_op m.code s.pc F.a1);rw[show(m.code.getD s.pc (0,0)).1=opAt m.code s.pc from rfl]at hc0;have d0:=(hb1.cell (p:=⟨cg,s.pc*2,none⟩) (World.block_lt_of_cell? _ _ hc0)).trans hc0;have k67:=hx1.m.o.m.cells.c67;have k74:=hx1.m.o.m.c74;simp only[macV]at k67 k74;obtain⟨ra,rc,hrv,-⟩:=id H.rep;rw[hrv]at k74;have HX:=Lib.hid (fun W (hW:Below w.heap.size w W)=>H.x.below hW);have HFl:=Lib.hid H.x.flt;have hpn:(s.pc:Int)<(m.code.length:Int):=by have:=F.a1;omega
 have hp0:(0:Int)≤(s.pc:Int):=by omega
 have hpn2:s.pc<m.code.length:=F.a1;obtain⟨nr,hnr⟩:∃nr,nr=reps.length:=⟨_,rfl⟩;rw[←hnr]at k74;have h5i:((opAt m.code s.pc:Nat):Int)≠5:=by omega
 have h5b:((((opAt m.code s.pc:Nat):Int))!=5)=true:=by simpa using h5i
 clear h5;generalize opAt m.code s.pc=o at*;generalize m.code.length=nc at*;have HB1:=Lib.hid hb1;have HH1:=Lib.hid hh1;have HH2:=Lib.hid hh2;have hHeld0:((W1.drew.cell? ⟨w.heap.size,0,none⟩=some (.pointer (some ⟨b,0,none⟩))∧W1.drew.cell? ⟨b,2,none⟩=some (.slice (some ⟨cg,0,none⟩) nc cc))∧(W1.drew.cell? ⟨b,67,none⟩=some (.int .u32 s.pc)∧W1.drew.cell? ⟨b,74,none⟩=some (.slice ra nr rc)))∧W1.drew.cell? ⟨cg,s.pc*2,none⟩=some (.int .u8 o):=⟨⟨⟨k1,k2⟩,⟨k67,k74⟩⟩,d0⟩;clear hx1 hcv hcc hc0 k1 k2 k67 k74 d0 hrv F H hb1 hh1 hh2;go_enter Tryz.func29,Tryz.ntmps29;go_wp2_with fail;rw[←hW1];clear hW1;refine wp_region_held_drew (S:=fun W=>((W.cell? ⟨w.heap.size,0,none⟩=some (.pointer (some ⟨b,0,none⟩))∧W.cell? ⟨b,2,none⟩=some (.slice (some ⟨cg,0,none⟩) nc cc))∧(W.cell? ⟨b,67,none⟩=some (.int .u32 s.pc)∧W.cell? ⟨b,74,none⟩=some (.slice ra nr rc)))∧W.cell? ⟨cg,s.pc*2,none⟩=some (.int .u8 o)) hmx hHeld0 (fun hHeld=>?_);refine tk 0 hHeld ?_;refine tk 1 hHeld ?_;refine tk 2 hHeld ?_;refine tk 3 hHeld ?_;refine tk 4 hHeld ?_;refine tk 5 hHeld ?_;refine tk 6 hHeld ?_;refine tk 7 hHeld ?_;refine tk 8 hHeld ?_;refine tk 9 hHeld ?_;refine tk 10 hHeld ?_;refine tk 11 hHeld ?_;refine tk 12 hHeld ?_;refine wpAnyH_take (i:=13) (v:=undef) (by simp only[List.getElem?_toArray,List.getElem?_cons_succ,List.getElem?_cons_zero,Option.some.injEq];rfl) (by kernel_rfl) (by kernel_rfl) (by kernel_rfl) (by exact fun _ _ _ h=>h) (Or.inr ⟨by rfl,rfl⟩) hHeld ?_
 try simp only[Act.put,aT,aZ,aS]
 refine wpAnyH_take (i:=14) (v:=undef) (by simp only[List.getElem?_toArray,List.getElem?_cons_succ,List.getElem?_cons_zero,Option.some.injEq];rfl) (by kernel_rfl) (by kernel_rfl) (by kernel_rfl) (by exact fun _ _ _ h=>h) (Or.inr ⟨by rfl,rfl⟩) hHeld ?_
 try simp only[Act.put,aT,aZ,aS]
 refine wpAnyH_take (i:=15) (v:=undef) (by simp only[List.getElem?_toArray,List.getElem?_cons_succ,List.getElem?_cons_zero,Option.some.injEq];rfl) (by kernel_rfl) (by kernel_rfl) (by kernel_rfl) (by exact fun _ _ _ h=>h) (Or.inr ⟨by rfl,rfl⟩) hHeld ?_
 try simp only[Act.put,aT,aZ,aS]
 refine wpAnyH_take (i:=16) (v:=undef) (by simp only[List.getElem?_toArray,List.getElem?_cons_succ,List.getElem?_cons_zero,Option.some.injEq];rfl) (by kernel_rfl) (by kernel_rfl) (by kernel_rfl) (by exact fun _ _ _ h=>h) (Or.inr ⟨by rfl,rfl⟩) hHeld ?_
 try simp only[Act.put,aT,aZ,aS]
 refine wpAnyH_take (i:=17) (v:=undef) (by simp only[List.getElem?_toArray,List.getElem?_cons_succ,List.getElem?_cons_zero,Option.some.injEq];rfl) (by kernel_rfl) (by kernel_rfl) (by kernel_rfl) (by exact fun _ _ _ h=>h) (Or.inr ⟨by rfl,rfl⟩) hHeld ?_
 try simp only[Act.put,aT,aZ,aS]
 refine wpAnyH_take (i:=18) (v:=undef) (by simp only[List.getElem?_toArray,List.getElem?_cons_succ,List.getElem?_cons_zero,Option.some.injEq];rfl) (by kernel_rfl) (by kernel_rfl) (by kernel_rfl) (by exact fun _ _ _ h=>h) (Or.inr ⟨by rfl,rfl⟩) hHeld ?_
 try simp only[Act.put,aT,aZ,aS]
 refine tk 19 hHeld ?_;refine wpAnyH_done (by kernel_rfl) ?_ _;have HQ2:=Lib.hid (show W1.drew.heap[w.heap.size+1]?=_ from HH2.out);have HBW:=Lib.hid (HB1.out.drew);clear hHeld hHeld0
 (go_wp2_with((with_reducible refine wpList_store_row (o:=⟨none,.store 42 (.tmp 2) (.tmp 28),_,_,_,none⟩) rfl 42 _ _ rfl (w.heap.size+1) #[.int .u32 0,.int .u32 0,.slice none 0 0,.int .u32 0] ?_ ?_ 42 _ HQ2.out ?_ ?_ ?_ ?_);rfl;rfl;exact size62 _ _ _ _;rfl;(simp[Value.oneCell'])))
 refine bodyPost_ret (v:=.tuple #[.agg #[.int .u32 0,.int .u32 0,.slice none 0 0,.int .u32 0],.bool false]) (results_cell_tmp Tryz.results29 _ _ (w.heap.size+1) 42 _ (0,0) _ rfl (setRow_heap _ _ _ _ _ _ HQ2.out) Tryz.underlying42 rfl (size62 _ _ _ _) _ rfl) rfl ?_;have hbe:Below w.heap.size w (W1.drew.setRow (w.heap.size+1) #[.int .u32 0,.int .u32 0,.slice none 0 0,.int .u32 0]):=below_setRow HBW.out _ (by omega) _;exact⟨vt,HX.out _ hbe,Fr.of hbe _,_,_,_,_,_,_,rfl⟩
theorem wait_rep (H:AH w0 w b K s vo R M vt R.on [] evs lg gr mb m reps) (h5:opAt m.code s.pc=5) (hre:0<reps.length) :
 Calls Tryz.prog 29 #[.pointer (some ⟨b,0,none⟩)] w (WaitPost none b K s vo R M vt evs lg w):=by
 have hmx:Tryz.prog.follows .mixedOrders=true:=by kernel_rfl
 have hz:=zero62;have hbz:=run_b62z;have F:=H.f;obtain⟨W1,hW1⟩:∃W1,W1=(w.alloc (.cells #[.pointer (some ⟨b,0,none⟩)] 35)).alloc (.cells #[.int .u32 0,.int .u32 0,.slice none 0 0,.int .u32 0] 42):=⟨_,rfl⟩;have hb1:Below w.heap.size w W1:=by rw[hW1];exact Bel.al (Bel.new _ _) _
 have hh1:W1.heap[w.heap.size]?=some (.cells #[.pointer (some ⟨b,0,none⟩)] 35 (0,0)):=by rw[hW1,Below.heap_alloc _ _ _ (by simp)];exact heap_alloc_new _ _
 have hh2:W1.heap[w.heap.size+1]?=some (.cells #[.int .u32 0,.int .u32 0,.slice none 0 0,.int .u32 0] 42 (0,0)):=by
  rw[hW1];have:=heap_alloc_new (w.alloc (.cells #[.pointer (some ⟨b,0,none⟩)] 35)) (.cells #[.int .u32 0,.int .u32 0,.slice none 0 0,.int .u32 0] 42)
  simpa using this
 have k1:=cell_of_row W1 w.heap.size 0 _ _ _ hh1;have hl1:w.heap.size<W1.heap.size:=(Array.getElem?_eq_some_iff.1 hh1).1;have hl2:w.heap.size+1<W1.heap.size:=(Array.getElem?_eq_some_iff.1 hh2).1;have hx1:=H.x.below hb1;have k2:=hx1.m.o.m.cells.c2;obtain⟨cg,cc,hcv,-,-,-,hcc⟩:=own_form (own_base (own_below H.st.code (H.home.b))) (show 0<m.code.length by have:=F.a1;omega);rw[hcv]at k2;have hc0:=(hcc (s.pc*2) (by rw[encI_length];have:=F.a1;omega)).trans (encI_op m.code s.pc F.a1);rw[show(m.code.getD s.pc (0,0)).1=opAt m.code s.pc from rfl]at hc0;have d0:=(hb1.cell (p:=⟨cg,s.pc*2,none⟩) (World.block_lt_of_cell? _ _ hc0)).trans hc0;have k67:=hx1.m.o.m.cells.c67;have k74:=hx1.m.o.m.c74;simp only[macV]at k67 k74;obtain⟨ra,rc,hrv,-⟩:=id H.rep;rw[hrv]at k74;have HX:=Lib.hid (fun W (hW:Below w.heap.size w W)=>H.x.below hW);have HFl:=Lib.hid H.x.flt;have hpn:(s.pc:Int)<(m.code.length:Int):=by have:=F.a1;omega
 have hp0:(0:Int)≤(s.pc:Int):=by omega
 have hpn2:s.pc<m.code.length:=F.a1;obtain⟨nr,hnr⟩:∃nr,nr=reps.length:=⟨_,rfl⟩;rw[←hnr]at k74;have hnr0:(0:Int)<(nr:Int):=by omega
 rw[h5]at d0;clear h5 hre hnr;generalize m.code.length=nc at*;have HB1:=Lib.hid hb1;have HH1:=Lib.hid hh1;have HH2:=Lib.hid hh2;have hHeld0:((W1.drew.cell? ⟨w.heap.size,0,none⟩=some (.pointer (some ⟨b,0,none⟩))∧W1.drew.cell? ⟨b,2,none⟩=some (.slice (some ⟨cg,0,none⟩) nc cc))∧(W1.drew.cell? ⟨b,67,none⟩=some (.int .u32 s.pc)∧W1.drew.cell? ⟨b,74,none⟩=some (.slice ra nr rc)))∧W1.drew.cell? ⟨cg,s.pc*2,none⟩=some (.int .u8 (5:Nat)):=⟨⟨⟨k1,k2⟩,⟨k67,k74⟩⟩,d0⟩;clear hx1 hcv hcc hc0 k1 k2 k67 k74 d0 hrv F H hb1 hh1 hh2;go_enter Tryz.func29,Tryz.ntmps29;go_wp2_with fail;rw[←hW1];clear hW1;refine wp_region_held_drew (S:=fun W=>((W.cell? ⟨w.heap.size,0,none⟩=some (.pointer (some ⟨b,0,none⟩))∧W.cell? ⟨b,2,none⟩=some (.slice (some ⟨cg,0,none⟩) nc cc))∧(W.cell? ⟨b,67,none⟩=some (.int .u32 s.pc)∧W.cell? ⟨b,74,none⟩=some (.slice ra nr rc)))∧W.cell? ⟨cg,s.pc*2,none⟩=some (.int .u8 (5:Nat))) hmx hHeld0 (fun hHeld=>?_);refine tk 0 hHeld ?_;refine tk 1 hHeld ?_;refine tk 2 hHeld ?_;refine tk 3 hHeld ?_;refine tk 4 hHeld ?_;refine tk 5 hHeld ?_;refine tk 6 hHeld ?_;refine tk 7 hHeld ?_;refine tk 8 hHeld ?_;refine tk 9 hHeld ?_;refine tk 10 hHeld ?_;refine tk 11 hHeld ?_;refine tk 12 hHeld ?_;refine tk 13 hHeld ?_;refine tk 14 hHeld ?_;refine tk 15 hHeld ?_;refine tk 16 hHeld ?_;refine tk 17 hHeld ?_;refine tk 18 hHeld ?_;refine tk 19 hHeld ?_;refine wpAnyH_done (by kernel_rfl) ?_ _;have HQ2:=Lib.hid (show W1.drew.heap[w.heap.size+1]?=_ from HH2.out);have HBW:=Lib.hid (HB1.out.drew);clear hHeld hHeld0
 (go_wp2_with((with_reducible refine wpList_store_row (o:=⟨none,.store 42 (.tmp 2) (.tmp 28),_,_,_,none⟩) rfl 42 _ _ rfl (w.heap.size+1) #[.int .u32 0,.int .u32 0,.slice none 0 0,.int .u32 0] ?_ ?_ 42 _ HQ2.out ?_ ?_ ?_ ?_);rfl;rfl;exact size62 _ _ _ _;rfl;(simp[Value.oneCell'])))
 refine bodyPost_ret (v:=.tuple #[.agg #[.int .u32 0,.int .u32 0,.slice none 0 0,.int .u32 0],.bool false]) (results_cell_tmp Tryz.results29 _ _ (w.heap.size+1) 42 _ (0,0) _ rfl (setRow_heap _ _ _ _ _ _ HQ2.out) Tryz.underlying42 rfl (size62 _ _ _ _) _ rfl) rfl ?_;have hbe:Below w.heap.size w (W1.drew.setRow (w.heap.size+1) #[.int .u32 0,.int .u32 0,.slice none 0 0,.int .u32 0]):=below_setRow HBW.out _ (by omega) _;exact⟨vt,HX.out _ hbe,Fr.of hbe _,_,_,_,_,_,_,rfl⟩
end
section
variable {w0 w:World} {b:Nat} {K:MacK} {s:St} {vo:Value} {R:MacR} {M:MemK} {vt:Value} {evs:List (Ev×Value)} {lg:List (Nat×Bool)} {gr:List (Nat×Int)} {mb:Nat} {m:Img} {reps:List Rep}
theorem wait_num (H:AH w0 w b K s vo R M vt R.on [] evs lg gr mb m reps) (h5:opAt m.code s.pc=5) (hre:reps=[]) {l:List Nat} {y:Nat} (ho:s.ops=l++[y]) (hln:l.length≤65535) (hy:y<2147483648) :
 Calls Tryz.prog 29 #[.pointer (some ⟨b,0,none⟩)] w (WaitPost none b K s vo R M vt evs lg w):=by
 have hmx:Tryz.prog.follows .mixedOrders=true:=by kernel_rfl
 have hz:=zero62;have hbz:=run_b62z;have F:=H.f;obtain⟨W1,hW1⟩:∃W1,W1=(w.alloc (.cells #[.pointer (some ⟨b,0,none⟩)] 35)).alloc (.cells #[.int .u32 0,.int .u32 0,.slice none 0 0,.int .u32 0] 42):=⟨_,rfl⟩;have hb1:Below w.heap.size w W1:=by rw[hW1];exact Bel.al (Bel.new _ _) _
 have hh1:W1.heap[w.heap.size]?=some (.cells #[.pointer (some ⟨b,0,none⟩)] 35 (0,0)):=by rw[hW1,Below.heap_alloc _ _ _ (by simp)];exact heap_alloc_new _ _
 have hh2:W1.heap[w.heap.size+1]?=some (.cells #[.int .u32 0,.int .u32 0,.slice none 0 0,.int .u32 0] 42 (0,0)):=by
  rw[hW1];have:=heap_alloc_new (w.alloc (.cells #[.pointer (some ⟨b,0,none⟩)] 35)) (.cells #[.int .u32 0,.int .u32 0,.slice none 0 0,.int .u32 0] 42)
  simpa using this
 have k1:=cell_of_row W1 w.heap.size 0 _ _ _ hh1;have hl1:w.heap.size<W1.heap.size:=(Array.getElem?_eq_some_iff.1 hh1).1;have hl2:w.heap.size+1<W1.heap.size:=(Array.getElem?_eq_some_iff.1 hh2).1;have hx1:=H.x.below hb1;have k2:=hx1.m.o.m.cells.c2;obtain⟨cg,cc,hcv,-,-,-,hcc⟩:=own_form (own_base (own_below H.st.code (H.home.b))) (show 0<m.code.length by have:=F.a1;omega);rw[hcv]at k2;have hc0:=(hcc (s.pc*2) (by rw[encI_length];have:=F.a1;omega)).trans (encI_op m.code s.pc F.a1);rw[show(m.code.getD s.pc (0,0)).1=opAt m.code s.pc from rfl]at hc0;have d0:=(hb1.cell (p:=⟨cg,s.pc*2,none⟩) (World.block_lt_of_cell? _ _ hc0)).trans hc0;have k67:=hx1.m.o.m.cells.c67;have k74:=hx1.m.o.m.c74;simp only[macV]at k67 k74;obtain⟨ra,rc,hrv,-⟩:=id H.rep;rw[hrv]at k74;have HX:=Lib.hid (fun W (hW:Below w.heap.size w W)=>H.x.below hW);have HFl:=Lib.hid H.x.flt;have hpn:(s.pc:Int)<(m.code.length:Int):=by have:=F.a1;omega
 have hp0:(0:Int)≤(s.pc:Int):=by omega
 have hpn2:s.pc<m.code.length:=F.a1;have hnr0:¬(0:Int)<((reps.length:Nat):Int):=by rw[hre];simp
 rw[hre]at k74;rw[h5]at d0;have HO:=Lib.hid ho;obtain⟨n,hnn⟩:∃n,n=l.length:=⟨_,rfl⟩;rw[←hnn]at hln;have HNN:=Lib.hid hnn;have e1:(((n+1:Nat):Int)) - 1=(n:Int):=by omega
 have w1:IntKind.i64.wrap (n:Int)=(n:Int):=IntWalk.i64_in _ (by omega);have hlt1:(n:Int)<(n:Int)+1:=by omega
 have hlt2:n<n+1:=by omega
 have hn1:(0:Int)≤(n:Int):=by omega
 have HG:=Lib.hid (fun W=>gnumber_any y (by omega) W);rw[if_neg (by omega),decide_eq_false (by omega)]at HG;clear H;clear h5 hre hnn ho;generalize m.code.length=nc at*;have HB1:=Lib.hid hb1;have HH1:=Lib.hid hh1;have HH2:=Lib.hid hh2;have hHeld0:((W1.drew.cell? ⟨w.heap.size,0,none⟩=some (.pointer (some ⟨b,0,none⟩))∧W1.drew.cell? ⟨b,2,none⟩=some (.slice (some ⟨cg,0,none⟩) nc cc))∧(W1.drew.cell? ⟨b,67,none⟩=some (.int .u32 s.pc)∧W1.drew.cell? ⟨b,74,none⟩=some (.slice ra 0 rc)))∧W1.drew.cell? ⟨cg,s.pc*2,none⟩=some (.int .u8 (5:Nat)):=⟨⟨⟨k1,k2⟩,⟨k67,k74⟩⟩,d0⟩;clear hx1 hcv hcc hc0 k1 k2 k67 k74 d0 hrv F hb1 hh1 hh2;go_enter Tryz.func29,Tryz.ntmps29;go_wp2_with fail;rw[←hW1];clear hW1;refine wp_region_held_drew (S:=fun W=>((W.cell? ⟨w.heap.size,0,none⟩=some (.pointer (some ⟨b,0,none⟩))∧W.cell? ⟨b,2,none⟩=some (.slice (some ⟨cg,0,none⟩) nc cc))∧(W.cell? ⟨b,67,none⟩=some (.int .u32 s.pc)∧W.cell? ⟨b,74,none⟩=some (.slice ra 0 rc)))∧W.cell? ⟨cg,s.pc*2,none⟩=some (.int .u8 (5:Nat))) hmx hHeld0 (fun hHeld=>?_);refine tk 0 hHeld ?_;refine tk 1 hHeld ?_;refine tk 2 hHeld ?_;refine tk 3 hHeld ?_;refine tk 4 hHeld ?_;refine tk 5 hHeld ?_;refine tk 6 hHeld ?_;refine tk 7 hHeld ?_;refine tk 8 hHeld ?_;refine tk 9 hHeld ?_;refine tk 10 hHeld ?_;refine tk 11 hHeld ?_;refine tk 12 hHeld ?_;refine tk 13 hHeld ?_;refine tk 14 hHeld ?_;refine tk 15 hHeld ?_;refine tk 16 hHeld ?_;refine tk 17 hHeld ?_;refine tk 18 hHeld ?_;refine tk 19 hHeld ?_;refine wpAnyH_done (by kernel_rfl) ?_ _;obtain⟨W2,hW2⟩:∃W2,W2=W1.drew:=⟨_,rfl⟩;rw[←hW2];have hw2:Below w.heap.size w W2:=by rw[hW2];exact HB1.out.drew
 have hk1:W2.heap[w.heap.size]?=some (.cells #[.pointer (some ⟨b,0,none⟩)] 35 (0,0)):=by rw[hW2];exact HH1.out
 have hk2:W2.heap[w.heap.size+1]?=some (.cells #[.int .u32 0,.int .u32 0,.slice none 0 0,.int .u32 0] 42 (0,0)):=by rw[hW2];exact HH2.out
 have hx2:=HX.out W2 hw2;obtain⟨g,cap,hgv,yg⟩:=hx2.m.top1 HO.out;have y69:=hx2.m.o.m.cells.c69;simp only[macV]at y69;rw[hgv]at y69;have y1:=cell_of_row W2 w.heap.size 0 _ _ _ hk1;have HW2:=Lib.hid hw2;have HK1:=Lib.hid hk1;have HK2:=Lib.hid hk2;have hwl:w.heap.size+1<W2.heap.size:=(Array.getElem?_eq_some_iff.1 hk2).1;rw[←HNN.out]at y69 yg;have HKp:=Lib.hid (fun (W:World) (hb:Below W2.heap.size W2 W)=>(⟨⟨(hb.cell (p:=⟨w.heap.size,0,none⟩) (World.block_lt_of_cell? _ _ y1)).trans y1,(hb.cell (p:=⟨b,69,none⟩) (World.block_lt_of_cell? _ _ y69)).trans y69⟩,(hb.cell (p:=⟨g,n,none⟩) (World.block_lt_of_cell? _ _ yg)).trans yg⟩:(W.cell? ⟨w.heap.size,0,none⟩=some (.pointer (some ⟨b,0,none⟩))∧W.cell? ⟨b,69,none⟩=some (.slice (some ⟨g,0,none⟩) (n+1) cap))∧W.cell? ⟨g,n,none⟩=some (.int .u32 y)));clear hHeld hHeld0 hW2 hw2 hk1 hk2 hx2 hgv;go_wp2_with fail;refine wp_region_held_drew (S:=fun W=>(W.cell? ⟨w.heap.size,0,none⟩=some (.pointer (some ⟨b,0,none⟩))∧W.cell? ⟨b,69,none⟩=some (.slice (some ⟨g,0,none⟩) (n+1) cap))∧W.cell? ⟨g,n,none⟩=some (.int .u32 y)) hmx (⟨⟨y1,y69⟩,yg⟩:(W2.drew.cell? ⟨w.heap.size,0,none⟩=some (.pointer (some ⟨b,0,none⟩))∧W2.drew.cell? ⟨b,69,none⟩=some (.slice (some ⟨g,0,none⟩) (n+1) cap))∧W2.drew.cell? ⟨g,n,none⟩=some (.int .u32 y)) (fun hHeld=>?_);refine tk 0 hHeld ?_;refine tk 1 hHeld ?_;refine tk 2 hHeld ?_;refine tk 3 hHeld ?_;refine tk 4 hHeld ?_;refine tk 5 hHeld ?_;refine tk 6 hHeld ?_;refine tk 7 hHeld ?_;refine tk 8 hHeld ?_;refine tk 9 hHeld ?_;refine tk 10 hHeld ?_;refine tk 11 hHeld ?_;refine wpAnyH_ready (rs:=[12,16]) (by kernel_rfl) (by simp) (AllReadyH.cons rfl (fun K hK=>?_) (AllReadyH.cons rfl (fun K hK=>?_) AllReadyH.nil))
 ·go_simp
  refine(HG.out _).mono ?_;rintro e W9⟨rfl,rfl⟩;refine hK.out _ _ hHeld (fun _=>?_);clear hK K
  try simp only[Act.put,aT,aZ,aS]
  refine tk 13 hHeld ?_;refine tk 14 hHeld ?_;refine tk 15 hHeld ?_;refine rd 16 _ fun K hK=>?_;go_simp;have hb3:Below W2.heap.size W2 (W2.alloc (.cells #[.int .u32 0] 25)).drew:=(Bel.new W2 (.cells #[.int .u32 0] 25)).drew;have hH3:=HKp.out _ hb3;refine hK.out _ _ hH3 (fun _=>?_);clear hK K
  try simp only[Act.put,aT,aZ,aS]
  have hr4:(W2.alloc (.cells #[.int .u32 0] 25)).drew.heap[W2.heap.size]?=some (Obj.cells #[.int .u32 0] 25 (0,0)):=heap_alloc_new W2 (.cells #[.int .u32 0] 25);obtain⟨W3,hW3⟩:∃W3,W3=(W2.alloc (.cells #[.int .u32 0] 25)).drew:=⟨_,rfl⟩;rw[←hW3]at hb3 hH3 hr4⊢;clear hW3;obtain⟨q4,hq4⟩:∃q,q=W2.heap.size:=⟨_,rfl⟩;rw[←hq4]at hr4⊢;refine rd 17 ⟨none,.store 25 (.tmp 4) (.tmp 43),_,_,_,none⟩ fun K hK=>?_;rw[if_pos (by rfl)];refine outs_wp (R:=fun v W'=>v=undef∧W'=W3.setRow q4 #[.int .u32 (0:Nat)]) (outs_store_one 25 (.tmp 4) (.tmp 43) rfl q4 _ rfl rfl rfl 25 _ hr4 tinfo25 ⟨rfl,rfl⟩) ?_;rintro _ _⟨rfl,rfl⟩;have hb5:Below W2.heap.size W2 (W3.setRow q4 #[.int .u32 (0:Nat)]):=below_setRow hb3 _ (by omega) _;have hH5:=HKp.out _ hb5;have hr4b:(W3.setRow q4 #[.int .u32 (0:Nat)]).heap[q4]?=some (.cells #[.int .u32 (0:Nat)] 25 (0,0)):=setRow_heap _ _ _ _ _ _ hr4;refine hK.out _ _ hH5 (fun _=>?_);clear hK K
  try simp only[Act.put,aT,aZ,aS]
  refine tk 18 hH5 ?_;refine wpAnyH_done (by kernel_rfl) ?_ _;obtain⟨W4,hW4⟩:∃W4,W4=W3.setRow q4 #[.int .u32 (0:Nat)]:=⟨_,rfl⟩;rw[←hW4]at hb5 hr4b hH5⊢;clear hW4 hH3 hr4 hb3 hHeld y1 y69 yg;have hw4:=Bel.tr HW2.out hb5;have HB4:=Lib.hid hb5;have HR4:=Lib.hid hr4b;have HQ4:=Lib.hid hq4;clear hb5 hr4b hH5 hq4;have HBW:=Lib.hid hw4;have HQ2:=Lib.hid ((HB4.out.block _ hwl).trans HK2.out)
  go_wp2_with((with_reducible refine wpList_store_row (o:=⟨none,.store 42 (.tmp 2) (.tmp 47),_,_,_,none⟩) rfl 42 _ _ rfl (w.heap.size+1) #[.int .u32 0,.int .u32 0,.slice none 0 0,.int .u32 0] ?_ ?_ 42 _ HQ2.out ?_ ?_ ?_ ?_);rfl;rfl;exact size62 _ _ _ _;rfl;(simp[Value.oneCell']))
  refine bodyPost_ret (v:=.tuple #[.agg #[.int .u32 0,.int .u32 0,.slice none 0 0,.int .u32 0],.bool false]) (results_cell_tmp Tryz.results29 _ _ (w.heap.size+1) 42 _ (0,0) _ rfl (setRow_heap _ _ _ _ _ _ HQ2.out) Tryz.underlying42 rfl (size62 _ _ _ _) _ rfl) rfl ?_;have hbe:Below w.heap.size w (W4.setRow (w.heap.size+1) #[.int .u32 0,.int .u32 0,.slice none 0 0,.int .u32 0]):=below_setRow HBW.out _ (by omega) _;exact⟨vt,HX.out _ hbe,Fr.of hbe _,_,_,_,_,_,_,rfl⟩
 ·go_simp
  have hb3:Below W2.heap.size W2 (W2.alloc (.cells #[.int .u32 0] 25)).drew:=(Bel.new W2 (.cells #[.int .u32 0] 25)).drew;have hH3:=HKp.out _ hb3;refine hK.out _ _ hH3 (fun _=>?_);clear hK K
  try simp only[Act.put,aT,aZ,aS]
  have hr4:(W2.alloc (.cells #[.int .u32 0] 25)).drew.heap[W2.heap.size]?=some (Obj.cells #[.int .u32 0] 25 (0,0)):=heap_alloc_new W2 (.cells #[.int .u32 0] 25);obtain⟨W3,hW3⟩:∃W3,W3=(W2.alloc (.cells #[.int .u32 0] 25)).drew:=⟨_,rfl⟩;rw[←hW3]at hb3 hH3 hr4⊢;clear hW3;refine rd 12 _ fun K hK=>?_;go_simp;refine(HG.out _).mono ?_;rintro e W9⟨rfl,rfl⟩;refine hK.out _ _ hH3 (fun _=>?_);clear hK K
  try simp only[Act.put,aT,aZ,aS]
  refine tk 13 hH3 ?_;refine tk 14 hH3 ?_;refine tk 15 hH3 ?_;obtain⟨q4,hq4⟩:∃q,q=W2.heap.size:=⟨_,rfl⟩;rw[←hq4]at hr4⊢;refine rd 17 ⟨none,.store 25 (.tmp 4) (.tmp 43),_,_,_,none⟩ fun K hK=>?_;rw[if_pos (by rfl)];refine outs_wp (R:=fun v W'=>v=undef∧W'=W3.setRow q4 #[.int .u32 (0:Nat)]) (outs_store_one 25 (.tmp 4) (.tmp 43) rfl q4 _ rfl rfl rfl 25 _ hr4 tinfo25 ⟨rfl,rfl⟩) ?_;rintro _ _⟨rfl,rfl⟩;have hb5:Below W2.heap.size W2 (W3.setRow q4 #[.int .u32 (0:Nat)]):=below_setRow hb3 _ (by omega) _;have hH5:=HKp.out _ hb5;have hr4b:(W3.setRow q4 #[.int .u32 (0:Nat)]).heap[q4]?=some (.cells #[.int .u32 (0:Nat)] 25 (0,0)):=setRow_heap _ _ _ _ _ _ hr4;refine hK.out _ _ hH5 (fun _=>?_);clear hK K
  try simp only[Act.put,aT,aZ,aS]
  refine tk 18 hH5 ?_;refine wpAnyH_done (by kernel_rfl) ?_ _;obtain⟨W4,hW4⟩:∃W4,W4=W3.setRow q4 #[.int .u32 (0:Nat)]:=⟨_,rfl⟩;rw[←hW4]at hb5 hr4b hH5⊢;clear hW4 hH3 hr4 hb3 hHeld y1 y69 yg;have hw4:=Bel.tr HW2.out hb5;have HB4:=Lib.hid hb5;have HR4:=Lib.hid hr4b;have HQ4:=Lib.hid hq4;clear hb5 hr4b hH5 hq4;have HBW:=Lib.hid hw4;have HQ2:=Lib.hid ((HB4.out.block _ hwl).trans HK2.out)
  go_wp2_with((with_reducible refine wpList_store_row (o:=⟨none,.store 42 (.tmp 2) (.tmp 47),_,_,_,none⟩) rfl 42 _ _ rfl (w.heap.size+1) #[.int .u32 0,.int .u32 0,.slice none 0 0,.int .u32 0] ?_ ?_ 42 _ HQ2.out ?_ ?_ ?_ ?_);rfl;rfl;exact size62 _ _ _ _;rfl;(simp[Value.oneCell']))
  refine bodyPost_ret (v:=.tuple #[.agg #[.int .u32 0,.int .u32 0,.slice none 0 0,.int .u32 0],.bool false]) (results_cell_tmp Tryz.results29 _ _ (w.heap.size+1) 42 _ (0,0) _ rfl (setRow_heap _ _ _ _ _ _ HQ2.out) Tryz.underlying42 rfl (size62 _ _ _ _) _ rfl) rfl ?_;have hbe:Below w.heap.size w (W4.setRow (w.heap.size+1) #[.int .u32 0,.int .u32 0,.slice none 0 0,.int .u32 0]):=below_setRow HBW.out _ (by omega) _;exact⟨vt,HX.out _ hbe,Fr.of hbe _,_,_,_,_,_,_,rfl⟩
theorem wait_sysno (H:AH w0 w b K s vo R M vt R.on [] evs lg gr mb m reps) (h5:opAt m.code s.pc=5) (hre:reps=[]) {l:List Nat} {y:Nat} (ho:s.ops=l++[y]) (hln:l.length≤65535) (hy:2147483648≤y) (hy9:y<4294967296) (hn9:grantedN gr (4294967295 - y)=none) :
 Calls Tryz.prog 29 #[.pointer (some ⟨b,0,none⟩)] w (WaitPost none b K s vo R M vt evs lg w):=by
 have hmx:Tryz.prog.follows .mixedOrders=true:=by kernel_rfl
 have hz:=zero62;have hbz:=run_b62z;have F:=H.f;obtain⟨W1,hW1⟩:∃W1,W1=(w.alloc (.cells #[.pointer (some ⟨b,0,none⟩)] 35)).alloc (.cells #[.int .u32 0,.int .u32 0,.slice none 0 0,.int .u32 0] 42):=⟨_,rfl⟩;have hb1:Below w.heap.size w W1:=by rw[hW1];exact Bel.al (Bel.new _ _) _
 have hh1:W1.heap[w.heap.size]?=some (.cells #[.pointer (some ⟨b,0,none⟩)] 35 (0,0)):=by rw[hW1,Below.heap_alloc _ _ _ (by simp)];exact heap_alloc_new _ _
 have hh2:W1.heap[w.heap.size+1]?=some (.cells #[.int .u32 0,.int .u32 0,.slice none 0 0,.int .u32 0] 42 (0,0)):=by
  rw[hW1];have:=heap_alloc_new (w.alloc (.cells #[.pointer (some ⟨b,0,none⟩)] 35)) (.cells #[.int .u32 0,.int .u32 0,.slice none 0 0,.int .u32 0] 42)
  simpa using this
 have k1:=cell_of_row W1 w.heap.size 0 _ _ _ hh1;have hl1:w.heap.size<W1.heap.size:=(Array.getElem?_eq_some_iff.1 hh1).1;have hl2:w.heap.size+1<W1.heap.size:=(Array.getElem?_eq_some_iff.1 hh2).1;have hx1:=H.x.below hb1;have k2:=hx1.m.o.m.cells.c2;obtain⟨cg,cc,hcv,-,-,-,hcc⟩:=own_form (own_base (own_below H.st.code (H.home.b))) (show 0<m.code.length by have:=F.a1;omega);rw[hcv]at k2;have hc0:=(hcc (s.pc*2) (by rw[encI_length];have:=F.a1;omega)).trans (encI_op m.code s.pc F.a1);rw[show(m.code.getD s.pc (0,0)).1=opAt m.code s.pc from rfl]at hc0;have d0:=(hb1.cell (p:=⟨cg,s.pc*2,none⟩) (World.block_lt_of_cell? _ _ hc0)).trans hc0;have k67:=hx1.m.o.m.cells.c67;have k74:=hx1.m.o.m.c74;simp only[macV]at k67 k74;obtain⟨ra,rc,hrv,-⟩:=id H.rep;rw[hrv]at k74;have HX:=Lib.hid (fun W (hW:Below w.heap.size w W)=>H.x.below hW);have HFl:=Lib.hid H.x.flt;have hpn:(s.pc:Int)<(m.code.length:Int):=by have:=F.a1;omega
 have hp0:(0:Int)≤(s.pc:Int):=by omega
 have hpn2:s.pc<m.code.length:=F.a1;have hnr0:¬(0:Int)<((reps.length:Nat):Int):=by rw[hre];simp
 rw[hre]at k74;rw[h5]at d0;have HO:=Lib.hid ho;obtain⟨n,hnn⟩:∃n,n=l.length:=⟨_,rfl⟩;rw[←hnn]at hln;have HNN:=Lib.hid hnn;have e1:(((n+1:Nat):Int)) - 1=(n:Int):=by omega
 have w1:IntKind.i64.wrap (n:Int)=(n:Int):=IntWalk.i64_in _ (by omega);have hlt1:(n:Int)<(n:Int)+1:=by omega
 have hlt2:n<n+1:=by omega
 have hn1:(0:Int)≤(n:Int):=by omega
 have HG:=Lib.hid (fun W=>gnumber_any y hy9 W);rw[if_pos hy,decide_eq_true hy]at HG;obtain⟨x,hxe⟩:∃x,x=4294967295 - y:=⟨_,rfl⟩;rw[←hxe]at HG hn9;have hx9:x<4294967296:=by omega
 have hs9:=H.wf.sp;have HHome:=Lib.hid H.home;have HGt:=Lib.hid H.st.gate;have hmf:∀(fn:Fn) (first cap:Array Value) (w:World),(Instr.makeFunc fn first cap).run Tryz.prog w=.ok (.func fn first cap) w:=fun _ _ _ _=>rfl;have hbw:=run_b62w;clear H hxe hy;clear h5 hre hnn ho;generalize m.code.length=nc at*;have HB1:=Lib.hid hb1;have HH1:=Lib.hid hh1;have HH2:=Lib.hid hh2;have hHeld0:((W1.drew.cell? ⟨w.heap.size,0,none⟩=some (.pointer (some ⟨b,0,none⟩))∧W1.drew.cell? ⟨b,2,none⟩=some (.slice (some ⟨cg,0,none⟩) nc cc))∧(W1.drew.cell? ⟨b,67,none⟩=some (.int .u32 s.pc)∧W1.drew.cell? ⟨b,74,none⟩=some (.slice ra 0 rc)))∧W1.drew.cell? ⟨cg,s.pc*2,none⟩=some (.int .u8 (5:Nat)):=⟨⟨⟨k1,k2⟩,⟨k67,k74⟩⟩,d0⟩;clear hx1 hcv hcc hc0 k1 k2 k67 k74 d0 hrv F hb1 hh1 hh2;go_enter Tryz.func29,Tryz.ntmps29;go_wp2_with fail;rw[←hW1];clear hW1;refine wp_region_held_drew (S:=fun W=>((W.cell? ⟨w.heap.size,0,none⟩=some (.pointer (some ⟨b,0,none⟩))∧W.cell? ⟨b,2,none⟩=some (.slice (some ⟨cg,0,none⟩) nc cc))∧(W.cell? ⟨b,67,none⟩=some (.int .u32 s.pc)∧W.cell? ⟨b,74,none⟩=some (.slice ra 0 rc)))∧W.cell? ⟨cg,s.pc*2,none⟩=some (.int .u8 (5:Nat))) hmx hHeld0 (fun hHeld=>?_);refine tk 0 hHeld ?_;refine tk 1 hHeld ?_;refine tk 2 hHeld ?_;refine tk 3 hHeld ?_;refine tk 4 hHeld ?_;refine tk 5 hHeld ?_;refine tk 6 hHeld ?_;refine tk 7 hHeld ?_;refine tk 8 hHeld ?_;refine tk 9 hHeld ?_;refine tk 10 hHeld ?_;refine tk 11 hHeld ?_;refine tk 12 hHeld ?_;refine tk 13 hHeld ?_;refine tk 14 hHeld ?_;refine tk 15 hHeld ?_;refine tk 16 hHeld ?_;refine tk 17 hHeld ?_;refine tk 18 hHeld ?_;refine tk 19 hHeld ?_;refine wpAnyH_done (by kernel_rfl) ?_ _;obtain⟨W2,hW2⟩:∃W2,W2=W1.drew:=⟨_,rfl⟩;rw[←hW2];have hw2:Below w.heap.size w W2:=by rw[hW2];exact HB1.out.drew
 have hk1:W2.heap[w.heap.size]?=some (.cells #[.pointer (some ⟨b,0,none⟩)] 35 (0,0)):=by rw[hW2];exact HH1.out
 have hk2:W2.heap[w.heap.size+1]?=some (.cells #[.int .u32 0,.int .u32 0,.slice none 0 0,.int .u32 0] 42 (0,0)):=by rw[hW2];exact HH2.out
 have hx2:=HX.out W2 hw2;obtain⟨g,cap,hgv,yg⟩:=hx2.m.top1 HO.out;have y69:=hx2.m.o.m.cells.c69;simp only[macV]at y69;rw[hgv]at y69;have y1:=cell_of_row W2 w.heap.size 0 _ _ _ hk1;have HW2:=Lib.hid hw2;have HK1:=Lib.hid hk1;have HK2:=Lib.hid hk2;have hwl:w.heap.size+1<W2.heap.size:=(Array.getElem?_eq_some_iff.1 hk2).1;rw[←HNN.out]at y69 yg;have HKp:=Lib.hid (fun (W:World) (hb:Below W2.heap.size W2 W)=>(⟨⟨(hb.cell (p:=⟨w.heap.size,0,none⟩) (World.block_lt_of_cell? _ _ y1)).trans y1,(hb.cell (p:=⟨b,69,none⟩) (World.block_lt_of_cell? _ _ y69)).trans y69⟩,(hb.cell (p:=⟨g,n,none⟩) (World.block_lt_of_cell? _ _ yg)).trans yg⟩:(W.cell? ⟨w.heap.size,0,none⟩=some (.pointer (some ⟨b,0,none⟩))∧W.cell? ⟨b,69,none⟩=some (.slice (some ⟨g,0,none⟩) (n+1) cap))∧W.cell? ⟨g,n,none⟩=some (.int .u32 y)));clear hHeld hHeld0 hW2 hw2 hk1 hk2 hx2 hgv;go_wp2_with fail;refine wp_region_held_drew (S:=fun W=>(W.cell? ⟨w.heap.size,0,none⟩=some (.pointer (some ⟨b,0,none⟩))∧W.cell? ⟨b,69,none⟩=some (.slice (some ⟨g,0,none⟩) (n+1) cap))∧W.cell? ⟨g,n,none⟩=some (.int .u32 y)) hmx (⟨⟨y1,y69⟩,yg⟩:(W2.drew.cell? ⟨w.heap.size,0,none⟩=some (.pointer (some ⟨b,0,none⟩))∧W2.drew.cell? ⟨b,69,none⟩=some (.slice (some ⟨g,0,none⟩) (n+1) cap))∧W2.drew.cell? ⟨g,n,none⟩=some (.int .u32 y)) (fun hHeld=>?_);refine tk 0 hHeld ?_;refine tk 1 hHeld ?_;refine tk 2 hHeld ?_;refine tk 3 hHeld ?_;refine tk 4 hHeld ?_;refine tk 5 hHeld ?_;refine tk 6 hHeld ?_;refine tk 7 hHeld ?_;refine tk 8 hHeld ?_;refine tk 9 hHeld ?_;refine tk 10 hHeld ?_;refine tk 11 hHeld ?_;refine wpAnyH_ready (rs:=[12,16]) (by kernel_rfl) (by simp) (AllReadyH.cons rfl (fun K hK=>?_) (AllReadyH.cons rfl (fun K hK=>?_) AllReadyH.nil))
 ·go_simp
  refine(HG.out _).mono ?_;rintro e W9⟨rfl,rfl⟩;refine hK.out _ _ hHeld (fun _=>?_);clear hK K
  try simp only[Act.put,aT,aZ,aS]
  refine tk 13 hHeld ?_;refine tk 14 hHeld ?_;refine tk 15 hHeld ?_;refine rd 16 _ fun K hK=>?_;go_simp;have hb3:Below W2.heap.size W2 (W2.alloc (.cells #[.int .u32 0] 25)).drew:=(Bel.new W2 (.cells #[.int .u32 0] 25)).drew;have hH3:=HKp.out _ hb3;refine hK.out _ _ hH3 (fun _=>?_);clear hK K
  try simp only[Act.put,aT,aZ,aS]
  have hr4:(W2.alloc (.cells #[.int .u32 0] 25)).drew.heap[W2.heap.size]?=some (Obj.cells #[.int .u32 0] 25 (0,0)):=heap_alloc_new W2 (.cells #[.int .u32 0] 25);obtain⟨W3,hW3⟩:∃W3,W3=(W2.alloc (.cells #[.int .u32 0] 25)).drew:=⟨_,rfl⟩;rw[←hW3]at hb3 hH3 hr4⊢;clear hW3;obtain⟨q4,hq4⟩:∃q,q=W2.heap.size:=⟨_,rfl⟩;rw[←hq4]at hr4⊢;refine rd 17 ⟨none,.store 25 (.tmp 4) (.tmp 43),_,_,_,none⟩ fun K hK=>?_;rw[if_pos (by rfl)];refine outs_wp (R:=fun v W'=>v=undef∧W'=W3.setRow q4 #[.int .u32 x]) (outs_store_one 25 (.tmp 4) (.tmp 43) rfl q4 _ rfl rfl rfl 25 _ hr4 tinfo25 ⟨rfl,rfl⟩) ?_;rintro _ _⟨rfl,rfl⟩;have hb5:Below W2.heap.size W2 (W3.setRow q4 #[.int .u32 x]):=below_setRow hb3 _ (by omega) _;have hH5:=HKp.out _ hb5;have hr4b:(W3.setRow q4 #[.int .u32 x]).heap[q4]?=some (.cells #[.int .u32 x] 25 (0,0)):=setRow_heap _ _ _ _ _ _ hr4;refine hK.out _ _ hH5 (fun _=>?_);clear hK K
  try simp only[Act.put,aT,aZ,aS]
  refine tk 18 hH5 ?_;refine wpAnyH_done (by kernel_rfl) ?_ _;obtain⟨W4,hW4⟩:∃W4,W4=W3.setRow q4 #[.int .u32 x]:=⟨_,rfl⟩;rw[←hW4]at hb5 hr4b hH5⊢;clear hW4 hH3 hr4 hb3 hHeld y1 y69 yg;have hw4:=Bel.tr HW2.out hb5;have HB4:=Lib.hid hb5;have HR4:=Lib.hid hr4b;have HQ4:=Lib.hid hq4;clear hb5 hr4b hH5 hq4;obtain⟨W5,hW5⟩:∃W5,W5=(W4.alloc (.cells #[.slice none 0 0] 23)).alloc (.cells #[.bool false] 4):=⟨_,rfl⟩;have hb45:Below W4.heap.size W4 W5:=by rw[hW5];exact Bel.al (Bel.new _ _) _
  have hr6:W5.heap[W4.heap.size]?=some (.cells #[.slice none 0 0] 23 (0,0)):=by rw[hW5,Below.heap_alloc _ _ _ (by simp)];exact heap_alloc_new _ _
  have hr7:W5.heap[W4.heap.size+1]?=some (.cells #[.bool false] 4 (0,0)):=by
   rw[hW5];have:=heap_alloc_new (W4.alloc (.cells #[.slice none 0 0] 23)) (.cells #[.bool false] 4)
   simpa using this
  have hl4:q4<W4.heap.size:=(Array.getElem?_eq_some_iff.1 HR4.out).1;have hr4:=(hb45.block _ hl4).trans HR4.out;have hwl4:w.heap.size+1<W4.heap.size:=Nat.lt_of_lt_of_le hwl HB4.out.size;have hr1:=(hb45.block _ (show w.heap.size<W4.heap.size by omega)).trans ((HB4.out.block _ (show w.heap.size<W2.heap.size by omega)).trans HK1.out);have hr2:=(hb45.block _ hwl4).trans ((HB4.out.block _ hwl).trans HK2.out);obtain⟨q6,hq6⟩:∃q,q=W4.heap.size:=⟨_,rfl⟩;obtain⟨q7,hq7⟩:∃q,q=W4.heap.size+1:=⟨_,rfl⟩;have hw5:=Bel.tr hw4 hb45;have hx5:=HX.out W5 hw5;have hq4:=HQ4.out;have hnf:∀q,w.heap.size≤q→¬allF b vo R M vt q:=fun q h e=>by have:=HFl.out _ e;omega
  rw[←hq6]at hr6;rw[←hq7]at hr7;have HUn:=Lib.hid (unseen_any (b:=b) (K:=K) (s:=s) (vo:=vo) (R:=R) (M:=M) (logs:=R.on) (evs:=evs) (lg:=lg) (w:=W5) (f:=65) (caps:=#[.pointer (some ⟨w.heap.size,0,none⟩),.pointer (some ⟨q4,0,none⟩),.pointer (some ⟨q6,0,none⟩),.pointer (some ⟨q7,0,none⟩)]) (fun W=>by simp[go_sem]) (wt1_no hx5 (Bel.tr HHome.out.b hw5) HGt.out hx9 hs9 hn9 hr1 hr4 hr6 hr7 (hnf _ (Nat.le_refl _)) (hnf _ (by omega)) (hnf _ (by omega)) (hnf _ (by omega)) (by omega) (by omega) (by omega) (by omega) (by omega)));have HR1:=Lib.hid hr1;have HR2:=Lib.hid hr2;have HR4b:=Lib.hid hr4;have HW5:=Lib.hid hw5;have HNF:=Lib.hid hnf;have hw45:=hb45.size;have hlq7:q7<W5.heap.size:=(Array.getElem?_eq_some_iff.1 hr7).1;have hMp:M.p<w.heap.size:=HFl.out _ (.inl (.inr (.inl rfl)));have HQ6:=Lib.hid hq6;have HQ7:=Lib.hid hq7;have e67:q6+1=q7:=by omega
  have HE67:=Lib.hid e67;clear hb45 hr6 hr7 hr4 hr1 hr2 hx5 hnf hw5 hq4 hq6 hq7 e67;have hl1:((W4.alloc (.cells #[.slice none 0 0] 23)).alloc (.cells #[.bool false] 4)).cell? ⟨w.heap.size,0,none⟩=some (.pointer (some ⟨b,0,none⟩)):=by rw[←hW5];exact cell_of_row W5 w.heap.size 0 _ _ _ HR1.out
  go_wp2_with fail;clear hl1;rw[←hW5];rw[←HQ6.out]
  try rw[HE67.out]
  clear hW5;refine HUn.out.mono ?_;rintro e w9⟨rfl,w8,hΨ,hX9,hf9⟩;have hq4:=HQ4.out;have hq6:=HQ6.out;have hq7:=HQ7.out;obtain⟨h6,h7,hf8⟩:=hΨ;obtain⟨aa,haa⟩:∃aa:Option Addr,aa=none:=⟨_,rfl⟩;obtain⟨nw,hnw⟩:∃nw:Nat,nw=0:=⟨_,rfl⟩;obtain⟨ca,hca⟩:∃ca:Nat,ca=0:=⟨_,rfl⟩;rw[show Value.slice none 0 0=Value.slice aa nw ca from by rw[haa,hnw,hca]]at h6;clear haa hnw hca;have np:∀q,w.heap.size≤q→¬q=M.p:=fun q h e=>by omega
  have n8:∀q,w.heap.size≤q→q≠q6→q≠q7→¬(allF b vo R M vt q∨q=q6∨q=q7):=fun q h h1 h2 e=>e.elim (HNF.out q h) (fun e=>e.elim h1 h2);have r1:=hf9.row (hf8.row HR1.out (n8 _ (Nat.le_refl _) (by omega) (by omega))) (np _ (Nat.le_refl _));have r2:=hf9.row (hf8.row HR2.out (n8 _ (by omega) (by omega) (by omega))) (np _ (by omega));have r4:=hf9.row (hf8.row HR4b.out (n8 _ (by omega) (by omega) (by omega))) (np _ (by omega));have r6:=hf9.row h6 (np _ (by omega));have r7:=hf9.row h7 (np _ (by omega));have k67:=hX9.m.o.m.cells.c67;simp only[macV]at k67
  have hFF:Fr w w9 (allF b vo R M vt) (allF b vo R M (.slice none 0 0)):=by
   have f5:=Fr.of HW5.out (allF b vo R M vt);refine⟨hf9.os.trans (hf8.os.trans f5.os),hf9.tape.trans (hf8.tape.trans f5.tape),hf9.output.trans (hf8.output.trans f5.output),Nat.le_trans f5.size (Nat.le_trans hf8.size hf9.size),fun k hk hn=>?_,fun k hk=>?_⟩
   ·have l5:=Nat.lt_of_lt_of_le hk f5.size
    have nq6:k≠q6:=(by omega);have nq7:k≠q7:=(by omega);exact((hf9.block k (Nat.lt_of_lt_of_le l5 hf8.size) (fun e=>hn (.inl (.inr (.inl e))))).trans (hf8.block k l5 (fun e=>e.elim hn (fun e=>e.elim nq6 nq7)))).trans (f5.block k hk hn)
   ·rcases hk with(hk|hk|hk|hk)|hk|hk
    ·exact .inl (.inl (.inl hk))
    ·exact .inl (.inl (.inr (.inl hk)))
    ·exact .inl (.inl (.inr (.inr (.inl hk))))
    ·cases hk
    ·exact .inl (.inr (.inl hk))
    ·exact .inl (.inr (.inr hk))
  have HXe:=Lib.hid hX9;have HFe:=Lib.hid hFF;have HR2e:=Lib.hid (show w9.drew.heap[w.heap.size+1]?=_ from r2);have hH9:(((w9.drew.cell? ⟨w.heap.size,0,none⟩=some (.pointer (some ⟨b,0,none⟩))∧w9.drew.cell? ⟨b,67,none⟩=some (.int .u32 s.pc))∧w9.drew.cell? ⟨q4,0,none⟩=some (.int .u32 x))∧(w9.drew.cell? ⟨q6,0,none⟩=some (.slice aa nw ca)∧w9.drew.cell? ⟨q7,0,none⟩=some (.bool false))):=⟨⟨⟨cell_of_row w9 w.heap.size 0 _ _ _ r1,k67⟩,cell_of_row w9 q4 0 _ _ _ r4⟩,⟨cell_of_row w9 q6 0 _ _ _ r6,cell_of_row w9 q7 0 _ _ _ r7⟩⟩;have hbl9:=hX9.m.lt;clear hX9 hFF hf8 hf9 r1 r2 r4 r6 r7 h6 h7 k67 hq4 hq6 hq7;go_wp2_with fail;refine wp_region_held_drew (S:=fun W=>(((W.cell? ⟨w.heap.size,0,none⟩=some (.pointer (some ⟨b,0,none⟩))∧W.cell? ⟨b,67,none⟩=some (.int .u32 s.pc))∧W.cell? ⟨q4,0,none⟩=some (.int .u32 x))∧(W.cell? ⟨q6,0,none⟩=some (.slice aa nw ca)∧W.cell? ⟨q7,0,none⟩=some (.bool false)))) hmx hH9 (fun hHeld=>?_);refine tk 0 hHeld ?_;refine tk 1 hHeld ?_;refine tk 2 hHeld ?_;refine tk 3 hHeld ?_;refine tk 4 hHeld ?_;refine tk 5 hHeld ?_;refine tk 6 hHeld ?_;refine tk 7 hHeld ?_;refine rd 8 ⟨none,.store 42 (.tmp 2) (.tmp 57),_,_,_,none⟩ fun K hK=>?_;rw[if_pos (by rfl)];refine outs_wp (R:=fun v W'=>v=undef∧W'=w9.drew.setRow (w.heap.size+1) #[.int .u32 s.pc,.int .u32 x,.slice aa nw ca,.int .u32 0]) (outs_store_row 42 (.tmp 2) (.tmp 57) rfl (w.heap.size+1) _ rfl rfl 42 _ HR2e.out info62 (by rfl) (by simp[Value.oneCell']) ⟨rfl,rfl⟩) ?_;rintro _ _⟨rfl,rfl⟩;have hq4:=HQ4.out;have hq6:=HQ6.out;have hq7:=HQ7.out;have hfs:Fr w9 (w9.drew.setRow (w.heap.size+1) #[.int .u32 s.pc,.int .u32 x,.slice aa nw ca,.int .u32 0]) (fun k=>k=w.heap.size+1) (fun k=>k=w.heap.size+1):=⟨rfl,rfl,rfl,by rw[setRow_size];exact Nat.le_refl _,fun k hk hn=>setRow_other _ _ _ _ hn,fun k hk=>.inl hk⟩;obtain⟨w10,hw10⟩:∃w10,w10=w9.drew.setRow (w.heap.size+1) #[.int .u32 s.pc,.int .u32 x,.slice aa nw ca,.int .u32 0]:=⟨_,rfl⟩;have hr10:w10.heap[w.heap.size+1]?=some (.cells #[.int .u32 s.pc,.int .u32 x,.slice aa nw ca,.int .u32 0] 42 (0,0)):=by rw[hw10];exact setRow_heap _ _ _ _ _ _ HR2e.out
  rw[←hw10]at hfs⊢
  have hne:∀k,allF b vo R M (.slice none 0 0) k→¬k=w.heap.size+1:=by
   rintro k ((hk|hk|hk|hk)|hk|hk) e
   ·have:=HFl.out k (.inl (.inl hk));omega
   ·have:=HFl.out k (.inl (.inr (.inl hk)));omega
   ·have:=HFl.out k (.inl (.inr (.inr (.inl hk))));omega
   ·cases hk
   ·have:=HFl.out k (.inr (.inl hk));omega
   ·have:=HFl.out k (.inr (.inr hk));omega
  have hX10:=HXe.out.fr' hfs hne (fun y hy g hg e=>by have:=not_row_of (HXe.out.ea y hy) (show w9.heap[w.heap.size+1]?=_ from HR2e.out) (by decide);exact this (by rw[hg,e]));have hc10:∀p v,p.block≠w.heap.size+1→w9.drew.cell? p=some v→w10.cell? p=some v:=fun p v hp hv=>by rw[hw10,World.cell?_of_block (setRow_other _ _ _ _ hp)];exact hv
  have hH10:(((w10.cell? ⟨w.heap.size,0,none⟩=some (.pointer (some ⟨b,0,none⟩))∧w10.cell? ⟨b,67,none⟩=some (.int .u32 s.pc))∧w10.cell? ⟨q4,0,none⟩=some (.int .u32 x))∧(w10.cell? ⟨q6,0,none⟩=some (.slice aa nw ca)∧w10.cell? ⟨q7,0,none⟩=some (.bool false))):=⟨⟨⟨hc10 _ _ (by show w.heap.size≠w.heap.size+1;omega) hHeld.1.1.1,hc10 _ _ (by show b≠w.heap.size+1;have:=HFl.out b (.inl (.inl (.inl rfl)));omega) hHeld.1.1.2⟩,hc10 _ _ (by show q4≠w.heap.size+1;omega) hHeld.1.2⟩,⟨hc10 _ _ (by show q6≠w.heap.size+1;omega) hHeld.2.1,hc10 _ _ (by show q7≠w.heap.size+1;omega) hHeld.2.2⟩⟩;clear hq4 hq6 hq7;refine hK.out _ _ hH10 (fun _=>?_);clear hK K
  try simp only[Act.put,aT,aZ,aS]
  refine tk 9 hH10 ?_;refine wpAnyH_done (by kernel_rfl) ?_ _;have HX10:=Lib.hid hX10;have HR10:=Lib.hid hr10;have HFs:=Lib.hid hfs;clear hX10 hr10 hfs hc10 hH10 hw10 hHeld hH9 hne;go_wp2_with fail;refine bodyPost_ret (v:=.tuple #[.agg #[.int .u32 s.pc,.int .u32 x,.slice aa nw ca,.int .u32 0],.bool false]) (results_cell_tmp Tryz.results29 _ _ (w.heap.size+1) 42 _ (0,0) _ rfl HR10.out Tryz.underlying42 rfl (size62 _ _ _ _) _ rfl) rfl ?_;have hFw:Fr w w10 (allF b vo R M vt) (allF b vo R M (.slice none 0 0)):=⟨HFs.out.os.trans HFe.out.os,HFs.out.tape.trans HFe.out.tape,HFs.out.output.trans HFe.out.output,Nat.le_trans HFe.out.size HFs.out.size,fun k hk hn=>(HFs.out.block k (Nat.lt_of_lt_of_le hk HFe.out.size) (by omega)).trans (HFe.out.block k hk hn),HFe.out.foot⟩;exact⟨.slice none 0 0,HX10.out,hFw,_,_,_,_,_,_,rfl⟩
 ·go_simp
  have hb3:Below W2.heap.size W2 (W2.alloc (.cells #[.int .u32 0] 25)).drew:=(Bel.new W2 (.cells #[.int .u32 0] 25)).drew;have hH3:=HKp.out _ hb3;refine hK.out _ _ hH3 (fun _=>?_);clear hK K
  try simp only[Act.put,aT,aZ,aS]
  have hr4:(W2.alloc (.cells #[.int .u32 0] 25)).drew.heap[W2.heap.size]?=some (Obj.cells #[.int .u32 0] 25 (0,0)):=heap_alloc_new W2 (.cells #[.int .u32 0] 25);obtain⟨W3,hW3⟩:∃W3,W3=(W2.alloc (.cells #[.int .u32 0] 25)).drew:=⟨_,rfl⟩;rw[←hW3]at hb3 hH3 hr4⊢;clear hW3;refine rd 12 _ fun K hK=>?_;go_simp;refine(HG.out _).mono ?_;rintro e W9⟨rfl,rfl⟩;refine hK.out _ _ hH3 (fun _=>?_);clear hK K
  try simp only[Act.put,aT,aZ,aS]
  refine tk 13 hH3 ?_;refine tk 14 hH3 ?_;refine tk 15 hH3 ?_;obtain⟨q4,hq4⟩:∃q,q=W2.heap.size:=⟨_,rfl⟩;rw[←hq4]at hr4⊢;refine rd 17 ⟨none,.store 25 (.tmp 4) (.tmp 43),_,_,_,none⟩ fun K hK=>?_;rw[if_pos (by rfl)];refine outs_wp (R:=fun v W'=>v=undef∧W'=W3.setRow q4 #[.int .u32 x]) (outs_store_one 25 (.tmp 4) (.tmp 43) rfl q4 _ rfl rfl rfl 25 _ hr4 tinfo25 ⟨rfl,rfl⟩) ?_;rintro _ _⟨rfl,rfl⟩;have hb5:Below W2.heap.size W2 (W3.setRow q4 #[.int .u32 x]):=below_setRow hb3 _ (by omega) _;have hH5:=HKp.out _ hb5;have hr4b:(W3.setRow q4 #[.int .u32 x]).heap[q4]?=some (.cells #[.int .u32 x] 25 (0,0)):=setRow_heap _ _ _ _ _ _ hr4;refine hK.out _ _ hH5 (fun _=>?_);clear hK K
  try simp only[Act.put,aT,aZ,aS]
  refine tk 18 hH5 ?_;refine wpAnyH_done (by kernel_rfl) ?_ _;obtain⟨W4,hW4⟩:∃W4,W4=W3.setRow q4 #[.int .u32 x]:=⟨_,rfl⟩;rw[←hW4]at hb5 hr4b hH5⊢;clear hW4 hH3 hr4 hb3 hHeld y1 y69 yg;have hw4:=Bel.tr HW2.out hb5;have HB4:=Lib.hid hb5;have HR4:=Lib.hid hr4b;have HQ4:=Lib.hid hq4;clear hb5 hr4b hH5 hq4;obtain⟨W5,hW5⟩:∃W5,W5=(W4.alloc (.cells #[.slice none 0 0] 23)).alloc (.cells #[.bool false] 4):=⟨_,rfl⟩;have hb45:Below W4.heap.size W4 W5:=by rw[hW5];exact Bel.al (Bel.new _ _) _
  have hr6:W5.heap[W4.heap.size]?=some (.cells #[.slice none 0 0] 23 (0,0)):=by rw[hW5,Below.heap_alloc _ _ _ (by simp)];exact heap_alloc_new _ _
  have hr7:W5.heap[W4.heap.size+1]?=some (.cells #[.bool false] 4 (0,0)):=by
   rw[hW5];have:=heap_alloc_new (W4.alloc (.cells #[.slice none 0 0] 23)) (.cells #[.bool false] 4)
   simpa using this
  have hl4:q4<W4.heap.size:=(Array.getElem?_eq_some_iff.1 HR4.out).1;have hr4:=(hb45.block _ hl4).trans HR4.out;have hwl4:w.heap.size+1<W4.heap.size:=Nat.lt_of_lt_of_le hwl HB4.out.size;have hr1:=(hb45.block _ (show w.heap.size<W4.heap.size by omega)).trans ((HB4.out.block _ (show w.heap.size<W2.heap.size by omega)).trans HK1.out);have hr2:=(hb45.block _ hwl4).trans ((HB4.out.block _ hwl).trans HK2.out);obtain⟨q6,hq6⟩:∃q,q=W4.heap.size:=⟨_,rfl⟩;obtain⟨q7,hq7⟩:∃q,q=W4.heap.size+1:=⟨_,rfl⟩;have hw5:=Bel.tr hw4 hb45;have hx5:=HX.out W5 hw5;have hq4:=HQ4.out;have hnf:∀q,w.heap.size≤q→¬allF b vo R M vt q:=fun q h e=>by have:=HFl.out _ e;omega
  rw[←hq6]at hr6;rw[←hq7]at hr7;have HUn:=Lib.hid (unseen_any (b:=b) (K:=K) (s:=s) (vo:=vo) (R:=R) (M:=M) (logs:=R.on) (evs:=evs) (lg:=lg) (w:=W5) (f:=65) (caps:=#[.pointer (some ⟨w.heap.size,0,none⟩),.pointer (some ⟨q4,0,none⟩),.pointer (some ⟨q6,0,none⟩),.pointer (some ⟨q7,0,none⟩)]) (fun W=>by simp[go_sem]) (wt1_no hx5 (Bel.tr HHome.out.b hw5) HGt.out hx9 hs9 hn9 hr1 hr4 hr6 hr7 (hnf _ (Nat.le_refl _)) (hnf _ (by omega)) (hnf _ (by omega)) (hnf _ (by omega)) (by omega) (by omega) (by omega) (by omega) (by omega)));have HR1:=Lib.hid hr1;have HR2:=Lib.hid hr2;have HR4b:=Lib.hid hr4;have HW5:=Lib.hid hw5;have HNF:=Lib.hid hnf;have hw45:=hb45.size;have hlq7:q7<W5.heap.size:=(Array.getElem?_eq_some_iff.1 hr7).1;have hMp:M.p<w.heap.size:=HFl.out _ (.inl (.inr (.inl rfl)));have HQ6:=Lib.hid hq6;have HQ7:=Lib.hid hq7;have e67:q6+1=q7:=by omega
  have HE67:=Lib.hid e67;clear hb45 hr6 hr7 hr4 hr1 hr2 hx5 hnf hw5 hq4 hq6 hq7 e67;have hl1:((W4.alloc (.cells #[.slice none 0 0] 23)).alloc (.cells #[.bool false] 4)).cell? ⟨w.heap.size,0,none⟩=some (.pointer (some ⟨b,0,none⟩)):=by rw[←hW5];exact cell_of_row W5 w.heap.size 0 _ _ _ HR1.out
  go_wp2_with fail;clear hl1;rw[←hW5];rw[←HQ6.out]
  try rw[HE67.out]
  clear hW5;refine HUn.out.mono ?_;rintro e w9⟨rfl,w8,hΨ,hX9,hf9⟩;have hq4:=HQ4.out;have hq6:=HQ6.out;have hq7:=HQ7.out;obtain⟨h6,h7,hf8⟩:=hΨ;obtain⟨aa,haa⟩:∃aa:Option Addr,aa=none:=⟨_,rfl⟩;obtain⟨nw,hnw⟩:∃nw:Nat,nw=0:=⟨_,rfl⟩;obtain⟨ca,hca⟩:∃ca:Nat,ca=0:=⟨_,rfl⟩;rw[show Value.slice none 0 0=Value.slice aa nw ca from by rw[haa,hnw,hca]]at h6;clear haa hnw hca;have np:∀q,w.heap.size≤q→¬q=M.p:=fun q h e=>by omega
  have n8:∀q,w.heap.size≤q→q≠q6→q≠q7→¬(allF b vo R M vt q∨q=q6∨q=q7):=fun q h h1 h2 e=>e.elim (HNF.out q h) (fun e=>e.elim h1 h2);have r1:=hf9.row (hf8.row HR1.out (n8 _ (Nat.le_refl _) (by omega) (by omega))) (np _ (Nat.le_refl _));have r2:=hf9.row (hf8.row HR2.out (n8 _ (by omega) (by omega) (by omega))) (np _ (by omega));have r4:=hf9.row (hf8.row HR4b.out (n8 _ (by omega) (by omega) (by omega))) (np _ (by omega));have r6:=hf9.row h6 (np _ (by omega));have r7:=hf9.row h7 (np _ (by omega));have k67:=hX9.m.o.m.cells.c67;simp only[macV]at k67
  have hFF:Fr w w9 (allF b vo R M vt) (allF b vo R M (.slice none 0 0)):=by
   have f5:=Fr.of HW5.out (allF b vo R M vt);refine⟨hf9.os.trans (hf8.os.trans f5.os),hf9.tape.trans (hf8.tape.trans f5.tape),hf9.output.trans (hf8.output.trans f5.output),Nat.le_trans f5.size (Nat.le_trans hf8.size hf9.size),fun k hk hn=>?_,fun k hk=>?_⟩
   ·have l5:=Nat.lt_of_lt_of_le hk f5.size
    have nq6:k≠q6:=(by omega);have nq7:k≠q7:=(by omega);exact((hf9.block k (Nat.lt_of_lt_of_le l5 hf8.size) (fun e=>hn (.inl (.inr (.inl e))))).trans (hf8.block k l5 (fun e=>e.elim hn (fun e=>e.elim nq6 nq7)))).trans (f5.block k hk hn)
   ·rcases hk with(hk|hk|hk|hk)|hk|hk
    ·exact .inl (.inl (.inl hk))
    ·exact .inl (.inl (.inr (.inl hk)))
    ·exact .inl (.inl (.inr (.inr (.inl hk))))
    ·cases hk
    ·exact .inl (.inr (.inl hk))
    ·exact .inl (.inr (.inr hk))
  have HXe:=Lib.hid hX9;have HFe:=Lib.hid hFF;have HR2e:=Lib.hid (show w9.drew.heap[w.heap.size+1]?=_ from r2);have hH9:(((w9.drew.cell? ⟨w.heap.size,0,none⟩=some (.pointer (some ⟨b,0,none⟩))∧w9.drew.cell? ⟨b,67,none⟩=some (.int .u32 s.pc))∧w9.drew.cell? ⟨q4,0,none⟩=some (.int .u32 x))∧(w9.drew.cell? ⟨q6,0,none⟩=some (.slice aa nw ca)∧w9.drew.cell? ⟨q7,0,none⟩=some (.bool false))):=⟨⟨⟨cell_of_row w9 w.heap.size 0 _ _ _ r1,k67⟩,cell_of_row w9 q4 0 _ _ _ r4⟩,⟨cell_of_row w9 q6 0 _ _ _ r6,cell_of_row w9 q7 0 _ _ _ r7⟩⟩;have hbl9:=hX9.m.lt;clear hX9 hFF hf8 hf9 r1 r2 r4 r6 r7 h6 h7 k67 hq4 hq6 hq7;go_wp2_with fail;refine wp_region_held_drew (S:=fun W=>(((W.cell? ⟨w.heap.size,0,none⟩=some (.pointer (some ⟨b,0,none⟩))∧W.cell? ⟨b,67,none⟩=some (.int .u32 s.pc))∧W.cell? ⟨q4,0,none⟩=some (.int .u32 x))∧(W.cell? ⟨q6,0,none⟩=some (.slice aa nw ca)∧W.cell? ⟨q7,0,none⟩=some (.bool false)))) hmx hH9 (fun hHeld=>?_);refine tk 0 hHeld ?_;refine tk 1 hHeld ?_;refine tk 2 hHeld ?_;refine tk 3 hHeld ?_;refine tk 4 hHeld ?_;refine tk 5 hHeld ?_;refine tk 6 hHeld ?_;refine tk 7 hHeld ?_;refine rd 8 ⟨none,.store 42 (.tmp 2) (.tmp 57),_,_,_,none⟩ fun K hK=>?_;rw[if_pos (by rfl)];refine outs_wp (R:=fun v W'=>v=undef∧W'=w9.drew.setRow (w.heap.size+1) #[.int .u32 s.pc,.int .u32 x,.slice aa nw ca,.int .u32 0]) (outs_store_row 42 (.tmp 2) (.tmp 57) rfl (w.heap.size+1) _ rfl rfl 42 _ HR2e.out info62 (by rfl) (by simp[Value.oneCell']) ⟨rfl,rfl⟩) ?_;rintro _ _⟨rfl,rfl⟩;have hq4:=HQ4.out;have hq6:=HQ6.out;have hq7:=HQ7.out;have hfs:Fr w9 (w9.drew.setRow (w.heap.size+1) #[.int .u32 s.pc,.int .u32 x,.slice aa nw ca,.int .u32 0]) (fun k=>k=w.heap.size+1) (fun k=>k=w.heap.size+1):=⟨rfl,rfl,rfl,by rw[setRow_size];exact Nat.le_refl _,fun k hk hn=>setRow_other _ _ _ _ hn,fun k hk=>.inl hk⟩;obtain⟨w10,hw10⟩:∃w10,w10=w9.drew.setRow (w.heap.size+1) #[.int .u32 s.pc,.int .u32 x,.slice aa nw ca,.int .u32 0]:=⟨_,rfl⟩;have hr10:w10.heap[w.heap.size+1]?=some (.cells #[.int .u32 s.pc,.int .u32 x,.slice aa nw ca,.int .u32 0] 42 (0,0)):=by rw[hw10];exact setRow_heap _ _ _ _ _ _ HR2e.out
  rw[←hw10]at hfs⊢
  have hne:∀k,allF b vo R M (.slice none 0 0) k→¬k=w.heap.size+1:=by
   rintro k ((hk|hk|hk|hk)|hk|hk) e
   ·have:=HFl.out k (.inl (.inl hk));omega
   ·have:=HFl.out k (.inl (.inr (.inl hk)));omega
   ·have:=HFl.out k (.inl (.inr (.inr (.inl hk))));omega
   ·cases hk
   ·have:=HFl.out k (.inr (.inl hk));omega
   ·have:=HFl.out k (.inr (.inr hk));omega
  have hX10:=HXe.out.fr' hfs hne (fun y hy g hg e=>by have:=not_row_of (HXe.out.ea y hy) (show w9.heap[w.heap.size+1]?=_ from HR2e.out) (by decide);exact this (by rw[hg,e]));have hc10:∀p v,p.block≠w.heap.size+1→w9.drew.cell? p=some v→w10.cell? p=some v:=fun p v hp hv=>by rw[hw10,World.cell?_of_block (setRow_other _ _ _ _ hp)];exact hv
  have hH10:(((w10.cell? ⟨w.heap.size,0,none⟩=some (.pointer (some ⟨b,0,none⟩))∧w10.cell? ⟨b,67,none⟩=some (.int .u32 s.pc))∧w10.cell? ⟨q4,0,none⟩=some (.int .u32 x))∧(w10.cell? ⟨q6,0,none⟩=some (.slice aa nw ca)∧w10.cell? ⟨q7,0,none⟩=some (.bool false))):=⟨⟨⟨hc10 _ _ (by show w.heap.size≠w.heap.size+1;omega) hHeld.1.1.1,hc10 _ _ (by show b≠w.heap.size+1;have:=HFl.out b (.inl (.inl (.inl rfl)));omega) hHeld.1.1.2⟩,hc10 _ _ (by show q4≠w.heap.size+1;omega) hHeld.1.2⟩,⟨hc10 _ _ (by show q6≠w.heap.size+1;omega) hHeld.2.1,hc10 _ _ (by show q7≠w.heap.size+1;omega) hHeld.2.2⟩⟩;clear hq4 hq6 hq7;refine hK.out _ _ hH10 (fun _=>?_);clear hK K
  try simp only[Act.put,aT,aZ,aS]
  refine tk 9 hH10 ?_;refine wpAnyH_done (by kernel_rfl) ?_ _;have HX10:=Lib.hid hX10;have HR10:=Lib.hid hr10;have HFs:=Lib.hid hfs;clear hX10 hr10 hfs hc10 hH10 hw10 hHeld hH9 hne;go_wp2_with fail;refine bodyPost_ret (v:=.tuple #[.agg #[.int .u32 s.pc,.int .u32 x,.slice aa nw ca,.int .u32 0],.bool false]) (results_cell_tmp Tryz.results29 _ _ (w.heap.size+1) 42 _ (0,0) _ rfl HR10.out Tryz.underlying42 rfl (size62 _ _ _ _) _ rfl) rfl ?_;have hFw:Fr w w10 (allF b vo R M vt) (allF b vo R M (.slice none 0 0)):=⟨HFs.out.os.trans HFe.out.os,HFs.out.tape.trans HFe.out.tape,HFs.out.output.trans HFe.out.output,Nat.le_trans HFe.out.size HFs.out.size,fun k hk hn=>(HFs.out.block k (Nat.lt_of_lt_of_le hk HFe.out.size) (by omega)).trans (HFe.out.block k hk hn),HFe.out.foot⟩;exact⟨.slice none 0 0,HX10.out,hFw,_,_,_,_,_,_,rfl⟩
theorem wait_sys (H:AH w0 w b K s vo R M vt R.on [] evs lg gr mb m reps) (h5:opAt m.code s.pc=5) (hre:reps=[]) {l:List Nat} {y:Nat} (ho:s.ops=l++[y]) (hln:l.length≤65535) (hy:2147483648≤y) (hy9:y<4294967296) {nn:Nat} (hn9:grantedN gr (4294967295 - y)=some (nn:Int)) (hn15:nn≤15) :
 Calls Tryz.prog 29 #[.pointer (some ⟨b,0,none⟩)] w (WaitPost (some ⟨s.pc,4294967295 - y,wordsM s.data s.sp nn,0⟩) b K s vo R M vt evs lg w):=by
 have hmx:Tryz.prog.follows .mixedOrders=true:=by kernel_rfl
 have hz:=zero62;have hbz:=run_b62z;have F:=H.f;obtain⟨W1,hW1⟩:∃W1,W1=(w.alloc (.cells #[.pointer (some ⟨b,0,none⟩)] 35)).alloc (.cells #[.int .u32 0,.int .u32 0,.slice none 0 0,.int .u32 0] 42):=⟨_,rfl⟩;have hb1:Below w.heap.size w W1:=by rw[hW1];exact Bel.al (Bel.new _ _) _
 have hh1:W1.heap[w.heap.size]?=some (.cells #[.pointer (some ⟨b,0,none⟩)] 35 (0,0)):=by rw[hW1,Below.heap_alloc _ _ _ (by simp)];exact heap_alloc_new _ _
 have hh2:W1.heap[w.heap.size+1]?=some (.cells #[.int .u32 0,.int .u32 0,.slice none 0 0,.int .u32 0] 42 (0,0)):=by
  rw[hW1];have:=heap_alloc_new (w.alloc (.cells #[.pointer (some ⟨b,0,none⟩)] 35)) (.cells #[.int .u32 0,.int .u32 0,.slice none 0 0,.int .u32 0] 42)
  simpa using this
 have k1:=cell_of_row W1 w.heap.size 0 _ _ _ hh1;have hl1:w.heap.size<W1.heap.size:=(Array.getElem?_eq_some_iff.1 hh1).1;have hl2:w.heap.size+1<W1.heap.size:=(Array.getElem?_eq_some_iff.1 hh2).1;have hx1:=H.x.below hb1;have k2:=hx1.m.o.m.cells.c2;obtain⟨cg,cc,hcv,-,-,-,hcc⟩:=own_form (own_base (own_below H.st.code (H.home.b))) (show 0<m.code.length by have:=F.a1;omega);rw[hcv]at k2;have hc0:=(hcc (s.pc*2) (by rw[encI_length];have:=F.a1;omega)).trans (encI_op m.code s.pc F.a1);rw[show(m.code.getD s.pc (0,0)).1=opAt m.code s.pc from rfl]at hc0;have d0:=(hb1.cell (p:=⟨cg,s.pc*2,none⟩) (World.block_lt_of_cell? _ _ hc0)).trans hc0;have k67:=hx1.m.o.m.cells.c67;have k74:=hx1.m.o.m.c74;simp only[macV]at k67 k74;obtain⟨ra,rc,hrv,-⟩:=id H.rep;rw[hrv]at k74;have HX:=Lib.hid (fun W (hW:Below w.heap.size w W)=>H.x.below hW);have HFl:=Lib.hid H.x.flt;have hpn:(s.pc:Int)<(m.code.length:Int):=by have:=F.a1;omega
 have hp0:(0:Int)≤(s.pc:Int):=by omega
 have hpn2:s.pc<m.code.length:=F.a1;have hnr0:¬(0:Int)<((reps.length:Nat):Int):=by rw[hre];simp
 rw[hre]at k74;rw[h5]at d0;have HO:=Lib.hid ho;obtain⟨n,hnn⟩:∃n,n=l.length:=⟨_,rfl⟩;rw[←hnn]at hln;have HNN:=Lib.hid hnn;have e1:(((n+1:Nat):Int)) - 1=(n:Int):=by omega
 have w1:IntKind.i64.wrap (n:Int)=(n:Int):=IntWalk.i64_in _ (by omega);have hlt1:(n:Int)<(n:Int)+1:=by omega
 have hlt2:n<n+1:=by omega
 have hn1:(0:Int)≤(n:Int):=by omega
 have HG:=Lib.hid (fun W=>gnumber_any y hy9 W);rw[if_pos hy,decide_eq_true hy]at HG;obtain⟨x,hxe⟩:∃x,x=4294967295 - y:=⟨_,rfl⟩;rw[←hxe]at HG hn9⊢;have hx9:x<4294967296:=by omega
 have hs9:=H.wf.sp;have HHome:=Lib.hid H.home;have HGt:=Lib.hid H.st.gate;have hmf:∀(fn:Fn) (first cap:Array Value) (w:World),(Instr.makeFunc fn first cap).run Tryz.prog w=.ok (.func fn first cap) w:=fun _ _ _ _=>rfl;have hbw:=run_b62w;clear H hxe hy;clear h5 hre hnn ho;generalize m.code.length=nc at*;have HB1:=Lib.hid hb1;have HH1:=Lib.hid hh1;have HH2:=Lib.hid hh2;have hHeld0:((W1.drew.cell? ⟨w.heap.size,0,none⟩=some (.pointer (some ⟨b,0,none⟩))∧W1.drew.cell? ⟨b,2,none⟩=some (.slice (some ⟨cg,0,none⟩) nc cc))∧(W1.drew.cell? ⟨b,67,none⟩=some (.int .u32 s.pc)∧W1.drew.cell? ⟨b,74,none⟩=some (.slice ra 0 rc)))∧W1.drew.cell? ⟨cg,s.pc*2,none⟩=some (.int .u8 (5:Nat)):=⟨⟨⟨k1,k2⟩,⟨k67,k74⟩⟩,d0⟩;clear hx1 hcv hcc hc0 k1 k2 k67 k74 d0 hrv F hb1 hh1 hh2;go_enter Tryz.func29,Tryz.ntmps29;go_wp2_with fail;rw[←hW1];clear hW1;refine wp_region_held_drew (S:=fun W=>((W.cell? ⟨w.heap.size,0,none⟩=some (.pointer (some ⟨b,0,none⟩))∧W.cell? ⟨b,2,none⟩=some (.slice (some ⟨cg,0,none⟩) nc cc))∧(W.cell? ⟨b,67,none⟩=some (.int .u32 s.pc)∧W.cell? ⟨b,74,none⟩=some (.slice ra 0 rc)))∧W.cell? ⟨cg,s.pc*2,none⟩=some (.int .u8 (5:Nat))) hmx hHeld0 (fun hHeld=>?_);refine tk 0 hHeld ?_;refine tk 1 hHeld ?_;refine tk 2 hHeld ?_;refine tk 3 hHeld ?_;refine tk 4 hHeld ?_;refine tk 5 hHeld ?_;refine tk 6 hHeld ?_;refine tk 7 hHeld ?_;refine tk 8 hHeld ?_;refine tk 9 hHeld ?_;refine tk 10 hHeld ?_;refine tk 11 hHeld ?_;refine tk 12 hHeld ?_;refine tk 13 hHeld ?_;refine tk 14 hHeld ?_;refine tk 15 hHeld ?_;refine tk 16 hHeld ?_;refine tk 17 hHeld ?_;refine tk 18 hHeld ?_;refine tk 19 hHeld ?_;refine wpAnyH_done (by kernel_rfl) ?_ _;obtain⟨W2,hW2⟩:∃W2,W2=W1.drew:=⟨_,rfl⟩;rw[←hW2];have hw2:Below w.heap.size w W2:=by rw[hW2];exact HB1.out.drew
 have hk1:W2.heap[w.heap.size]?=some (.cells #[.pointer (some ⟨b,0,none⟩)] 35 (0,0)):=by rw[hW2];exact HH1.out
 have hk2:W2.heap[w.heap.size+1]?=some (.cells #[.int .u32 0,.int .u32 0,.slice none 0 0,.int .u32 0] 42 (0,0)):=by rw[hW2];exact HH2.out
 have hx2:=HX.out W2 hw2;obtain⟨g,cap,hgv,yg⟩:=hx2.m.top1 HO.out;have y69:=hx2.m.o.m.cells.c69;simp only[macV]at y69;rw[hgv]at y69;have y1:=cell_of_row W2 w.heap.size 0 _ _ _ hk1;have HW2:=Lib.hid hw2;have HK1:=Lib.hid hk1;have HK2:=Lib.hid hk2;have hwl:w.heap.size+1<W2.heap.size:=(Array.getElem?_eq_some_iff.1 hk2).1;rw[←HNN.out]at y69 yg;have HKp:=Lib.hid (fun (W:World) (hb:Below W2.heap.size W2 W)=>(⟨⟨(hb.cell (p:=⟨w.heap.size,0,none⟩) (World.block_lt_of_cell? _ _ y1)).trans y1,(hb.cell (p:=⟨b,69,none⟩) (World.block_lt_of_cell? _ _ y69)).trans y69⟩,(hb.cell (p:=⟨g,n,none⟩) (World.block_lt_of_cell? _ _ yg)).trans yg⟩:(W.cell? ⟨w.heap.size,0,none⟩=some (.pointer (some ⟨b,0,none⟩))∧W.cell? ⟨b,69,none⟩=some (.slice (some ⟨g,0,none⟩) (n+1) cap))∧W.cell? ⟨g,n,none⟩=some (.int .u32 y)));clear hHeld hHeld0 hW2 hw2 hk1 hk2 hx2 hgv;go_wp2_with fail;refine wp_region_held_drew (S:=fun W=>(W.cell? ⟨w.heap.size,0,none⟩=some (.pointer (some ⟨b,0,none⟩))∧W.cell? ⟨b,69,none⟩=some (.slice (some ⟨g,0,none⟩) (n+1) cap))∧W.cell? ⟨g,n,none⟩=some (.int .u32 y)) hmx (⟨⟨y1,y69⟩,yg⟩:(W2.drew.cell? ⟨w.heap.size,0,none⟩=some (.pointer (some ⟨b,0,none⟩))∧W2.drew.cell? ⟨b,69,none⟩=some (.slice (some ⟨g,0,none⟩) (n+1) cap))∧W2.drew.cell? ⟨g,n,none⟩=some (.int .u32 y)) (fun hHeld=>?_);refine tk 0 hHeld ?_;refine tk 1 hHeld ?_;refine tk 2 hHeld ?_;refine tk 3 hHeld ?_;refine tk 4 hHeld ?_;refine tk 5 hHeld ?_;refine tk 6 hHeld ?_;refine tk 7 hHeld ?_;refine tk 8 hHeld ?_;refine tk 9 hHeld ?_;refine tk 10 hHeld ?_;refine tk 11 hHeld ?_;refine wpAnyH_ready (rs:=[12,16]) (by kernel_rfl) (by simp) (AllReadyH.cons rfl (fun K hK=>?_) (AllReadyH.cons rfl (fun K hK=>?_) AllReadyH.nil))
 ·go_simp
  refine(HG.out _).mono ?_;rintro e W9⟨rfl,rfl⟩;refine hK.out _ _ hHeld (fun _=>?_);clear hK K
  try simp only[Act.put,aT,aZ,aS]
  refine tk 13 hHeld ?_;refine tk 14 hHeld ?_;refine tk 15 hHeld ?_;refine rd 16 _ fun K hK=>?_;go_simp;have hb3:Below W2.heap.size W2 (W2.alloc (.cells #[.int .u32 0] 25)).drew:=(Bel.new W2 (.cells #[.int .u32 0] 25)).drew;have hH3:=HKp.out _ hb3;refine hK.out _ _ hH3 (fun _=>?_);clear hK K
  try simp only[Act.put,aT,aZ,aS]
  have hr4:(W2.alloc (.cells #[.int .u32 0] 25)).drew.heap[W2.heap.size]?=some (Obj.cells #[.int .u32 0] 25 (0,0)):=heap_alloc_new W2 (.cells #[.int .u32 0] 25);obtain⟨W3,hW3⟩:∃W3,W3=(W2.alloc (.cells #[.int .u32 0] 25)).drew:=⟨_,rfl⟩;rw[←hW3]at hb3 hH3 hr4⊢;clear hW3;obtain⟨q4,hq4⟩:∃q,q=W2.heap.size:=⟨_,rfl⟩;rw[←hq4]at hr4⊢;refine rd 17 ⟨none,.store 25 (.tmp 4) (.tmp 43),_,_,_,none⟩ fun K hK=>?_;rw[if_pos (by rfl)];refine outs_wp (R:=fun v W'=>v=undef∧W'=W3.setRow q4 #[.int .u32 x]) (outs_store_one 25 (.tmp 4) (.tmp 43) rfl q4 _ rfl rfl rfl 25 _ hr4 tinfo25 ⟨rfl,rfl⟩) ?_;rintro _ _⟨rfl,rfl⟩;have hb5:Below W2.heap.size W2 (W3.setRow q4 #[.int .u32 x]):=below_setRow hb3 _ (by omega) _;have hH5:=HKp.out _ hb5;have hr4b:(W3.setRow q4 #[.int .u32 x]).heap[q4]?=some (.cells #[.int .u32 x] 25 (0,0)):=setRow_heap _ _ _ _ _ _ hr4;refine hK.out _ _ hH5 (fun _=>?_);clear hK K
  try simp only[Act.put,aT,aZ,aS]
  refine tk 18 hH5 ?_;refine wpAnyH_done (by kernel_rfl) ?_ _;obtain⟨W4,hW4⟩:∃W4,W4=W3.setRow q4 #[.int .u32 x]:=⟨_,rfl⟩;rw[←hW4]at hb5 hr4b hH5⊢;clear hW4 hH3 hr4 hb3 hHeld y1 y69 yg;have hw4:=Bel.tr HW2.out hb5;have HB4:=Lib.hid hb5;have HR4:=Lib.hid hr4b;have HQ4:=Lib.hid hq4;clear hb5 hr4b hH5 hq4;obtain⟨W5,hW5⟩:∃W5,W5=(W4.alloc (.cells #[.slice none 0 0] 23)).alloc (.cells #[.bool false] 4):=⟨_,rfl⟩;have hb45:Below W4.heap.size W4 W5:=by rw[hW5];exact Bel.al (Bel.new _ _) _
  have hr6:W5.heap[W4.heap.size]?=some (.cells #[.slice none 0 0] 23 (0,0)):=by rw[hW5,Below.heap_alloc _ _ _ (by simp)];exact heap_alloc_new _ _
  have hr7:W5.heap[W4.heap.size+1]?=some (.cells #[.bool false] 4 (0,0)):=by
   rw[hW5];have:=heap_alloc_new (W4.alloc (.cells #[.slice none 0 0] 23)) (.cells #[.bool false] 4)
   simpa using this
  have hl4:q4<W4.heap.size:=(Array.getElem?_eq_some_iff.1 HR4.out).1;have hr4:=(hb45.block _ hl4).trans HR4.out;have hwl4:w.heap.size+1<W4.heap.size:=Nat.lt_of_lt_of_le hwl HB4.out.size;have hr1:=(hb45.block _ (show w.heap.size<W4.heap.size by omega)).trans ((HB4.out.block _ (show w.heap.size<W2.heap.size by omega)).trans HK1.out);have hr2:=(hb45.block _ hwl4).trans ((HB4.out.block _ hwl).trans HK2.out);obtain⟨q6,hq6⟩:∃q,q=W4.heap.size:=⟨_,rfl⟩;obtain⟨q7,hq7⟩:∃q,q=W4.heap.size+1:=⟨_,rfl⟩;have hw5:=Bel.tr hw4 hb45;have hx5:=HX.out W5 hw5;have hq4:=HQ4.out;have hnf:∀q,w.heap.size≤q→¬allF b vo R M vt q:=fun q h e=>by have:=HFl.out _ e;omega
  rw[←hq6]at hr6;rw[←hq7]at hr7;have HUn:=Lib.hid (unseen_any (b:=b) (K:=K) (s:=s) (vo:=vo) (R:=R) (M:=M) (logs:=R.on) (evs:=evs) (lg:=lg) (w:=W5) (f:=65) (caps:=#[.pointer (some ⟨w.heap.size,0,none⟩),.pointer (some ⟨q4,0,none⟩),.pointer (some ⟨q6,0,none⟩),.pointer (some ⟨q7,0,none⟩)]) (fun W=>by simp[go_sem]) (wt1_yes hx5 (Bel.tr HHome.out.b hw5) HGt.out hx9 hs9 hn9 hn15 hr1 hr4 hr6 hr7 (hnf _ (Nat.le_refl _)) (hnf _ (by omega)) (hnf _ (by omega)) (hnf _ (by omega)) (by omega) (by omega) (by omega) (by omega) (by omega)));have HR1:=Lib.hid hr1;have HR2:=Lib.hid hr2;have HR4b:=Lib.hid hr4;have HW5:=Lib.hid hw5;have HNF:=Lib.hid hnf;have hw45:=hb45.size;have hlq7:q7<W5.heap.size:=(Array.getElem?_eq_some_iff.1 hr7).1;have hMp:M.p<w.heap.size:=HFl.out _ (.inl (.inr (.inl rfl)));have HQ6:=Lib.hid hq6;have HQ7:=Lib.hid hq7;have e67:q6+1=q7:=by omega
  have HE67:=Lib.hid e67;clear hb45 hr6 hr7 hr4 hr1 hr2 hx5 hnf hw5 hq4 hq6 hq7 e67;have hl1:((W4.alloc (.cells #[.slice none 0 0] 23)).alloc (.cells #[.bool false] 4)).cell? ⟨w.heap.size,0,none⟩=some (.pointer (some ⟨b,0,none⟩)):=by rw[←hW5];exact cell_of_row W5 w.heap.size 0 _ _ _ HR1.out
  go_wp2_with fail;clear hl1;rw[←hW5];rw[←HQ6.out]
  try rw[HE67.out]
  clear hW5;refine HUn.out.mono ?_;rintro e w9⟨rfl,w8,hΨ,hX9,hf9⟩;have hq4:=HQ4.out;have hq6:=HQ6.out;have hq7:=HQ7.out;obtain⟨aa,ca,h6,h7,hrow,hf8⟩:=hΨ;obtain⟨nw,hnw⟩:∃nw,nw=nn:=⟨_,rfl⟩;rw[←hnw]at h6 hrow;have np:∀q,w.heap.size≤q→¬q=M.p:=fun q h e=>by omega
  have n8:∀q,w.heap.size≤q→q≠q6→q≠q7→¬(allF b vo R M vt q∨q=q6∨q=q7):=fun q h h1 h2 e=>e.elim (HNF.out q h) (fun e=>e.elim h1 h2);have r1:=hf9.row (hf8.row HR1.out (n8 _ (Nat.le_refl _) (by omega) (by omega))) (np _ (Nat.le_refl _));have r2:=hf9.row (hf8.row HR2.out (n8 _ (by omega) (by omega) (by omega))) (np _ (by omega));have r4:=hf9.row (hf8.row HR4b.out (n8 _ (by omega) (by omega) (by omega))) (np _ (by omega));have r6:=hf9.row h6 (np _ (by omega));have r7:=hf9.row h7 (np _ (by omega));have k67:=hX9.m.o.m.cells.c67;simp only[macV]at k67
  have hFF:Fr w w9 (allF b vo R M vt) (allF b vo R M (.slice none 0 0)):=by
   have f5:=Fr.of HW5.out (allF b vo R M vt);refine⟨hf9.os.trans (hf8.os.trans f5.os),hf9.tape.trans (hf8.tape.trans f5.tape),hf9.output.trans (hf8.output.trans f5.output),Nat.le_trans f5.size (Nat.le_trans hf8.size hf9.size),fun k hk hn=>?_,fun k hk=>?_⟩
   ·have l5:=Nat.lt_of_lt_of_le hk f5.size
    have nq6:k≠q6:=(by omega);have nq7:k≠q7:=(by omega);exact((hf9.block k (Nat.lt_of_lt_of_le l5 hf8.size) (fun e=>hn (.inl (.inr (.inl e))))).trans (hf8.block k l5 (fun e=>e.elim hn (fun e=>e.elim nq6 nq7)))).trans (f5.block k hk hn)
   ·rcases hk with(hk|hk|hk|hk)|hk|hk
    ·exact .inl (.inl (.inl hk))
    ·exact .inl (.inl (.inr (.inl hk)))
    ·exact .inl (.inl (.inr (.inr (.inl hk))))
    ·cases hk
    ·exact .inl (.inr (.inl hk))
    ·exact .inl (.inr (.inr hk))
  have hrw9:w9.ownsRow w.heap.size 25 1 (.slice aa nw ca) nw (encN .u32 (wordsM s.data s.sp nw)):=own_downT (own_fr hrow hf9 (fun g e e2=>by have:=(hrow.lt g e).1;omega)) (by have:=HW5.out.size;omega);have HXe:=Lib.hid hX9;have HFe:=Lib.hid hFF;have HR2e:=Lib.hid (show w9.drew.heap[w.heap.size+1]?=_ from r2);have HRw:=Lib.hid hrw9;have HNW:=Lib.hid hnw;clear hrw9 hrow hnw;have hH9:(((w9.drew.cell? ⟨w.heap.size,0,none⟩=some (.pointer (some ⟨b,0,none⟩))∧w9.drew.cell? ⟨b,67,none⟩=some (.int .u32 s.pc))∧w9.drew.cell? ⟨q4,0,none⟩=some (.int .u32 x))∧(w9.drew.cell? ⟨q6,0,none⟩=some (.slice aa nw ca)∧w9.drew.cell? ⟨q7,0,none⟩=some (.bool true))):=⟨⟨⟨cell_of_row w9 w.heap.size 0 _ _ _ r1,k67⟩,cell_of_row w9 q4 0 _ _ _ r4⟩,⟨cell_of_row w9 q6 0 _ _ _ r6,cell_of_row w9 q7 0 _ _ _ r7⟩⟩;have hbl9:=hX9.m.lt;clear hX9 hFF hf8 hf9 r1 r2 r4 r6 r7 h6 h7 k67 hq4 hq6 hq7;go_wp2_with fail;refine wp_region_held_drew (S:=fun W=>(((W.cell? ⟨w.heap.size,0,none⟩=some (.pointer (some ⟨b,0,none⟩))∧W.cell? ⟨b,67,none⟩=some (.int .u32 s.pc))∧W.cell? ⟨q4,0,none⟩=some (.int .u32 x))∧(W.cell? ⟨q6,0,none⟩=some (.slice aa nw ca)∧W.cell? ⟨q7,0,none⟩=some (.bool true)))) hmx hH9 (fun hHeld=>?_);refine tk 0 hHeld ?_;refine tk 1 hHeld ?_;refine tk 2 hHeld ?_;refine tk 3 hHeld ?_;refine tk 4 hHeld ?_;refine tk 5 hHeld ?_;refine tk 6 hHeld ?_;refine tk 7 hHeld ?_;refine rd 8 ⟨none,.store 42 (.tmp 2) (.tmp 57),_,_,_,none⟩ fun K hK=>?_;rw[if_pos (by rfl)];refine outs_wp (R:=fun v W'=>v=undef∧W'=w9.drew.setRow (w.heap.size+1) #[.int .u32 s.pc,.int .u32 x,.slice aa nw ca,.int .u32 0]) (outs_store_row 42 (.tmp 2) (.tmp 57) rfl (w.heap.size+1) _ rfl rfl 42 _ HR2e.out info62 (by rfl) (by simp[Value.oneCell']) ⟨rfl,rfl⟩) ?_;rintro _ _⟨rfl,rfl⟩;have hq4:=HQ4.out;have hq6:=HQ6.out;have hq7:=HQ7.out;have hfs:Fr w9 (w9.drew.setRow (w.heap.size+1) #[.int .u32 s.pc,.int .u32 x,.slice aa nw ca,.int .u32 0]) (fun k=>k=w.heap.size+1) (fun k=>k=w.heap.size+1):=⟨rfl,rfl,rfl,by rw[setRow_size];exact Nat.le_refl _,fun k hk hn=>setRow_other _ _ _ _ hn,fun k hk=>.inl hk⟩;obtain⟨w10,hw10⟩:∃w10,w10=w9.drew.setRow (w.heap.size+1) #[.int .u32 s.pc,.int .u32 x,.slice aa nw ca,.int .u32 0]:=⟨_,rfl⟩;have hr10:w10.heap[w.heap.size+1]?=some (.cells #[.int .u32 s.pc,.int .u32 x,.slice aa nw ca,.int .u32 0] 42 (0,0)):=by rw[hw10];exact setRow_heap _ _ _ _ _ _ HR2e.out
  rw[←hw10]at hfs⊢
  have hne:∀k,allF b vo R M (.slice none 0 0) k→¬k=w.heap.size+1:=by
   rintro k ((hk|hk|hk|hk)|hk|hk) e
   ·have:=HFl.out k (.inl (.inl hk));omega
   ·have:=HFl.out k (.inl (.inr (.inl hk)));omega
   ·have:=HFl.out k (.inl (.inr (.inr (.inl hk))));omega
   ·cases hk
   ·have:=HFl.out k (.inr (.inl hk));omega
   ·have:=HFl.out k (.inr (.inr hk));omega
  have hX10:=HXe.out.fr' hfs hne (fun y hy g hg e=>by have:=not_row_of (HXe.out.ea y hy) (show w9.heap[w.heap.size+1]?=_ from HR2e.out) (by decide);exact this (by rw[hg,e]));have hc10:∀p v,p.block≠w.heap.size+1→w9.drew.cell? p=some v→w10.cell? p=some v:=fun p v hp hv=>by rw[hw10,World.cell?_of_block (setRow_other _ _ _ _ hp)];exact hv
  have hH10:(((w10.cell? ⟨w.heap.size,0,none⟩=some (.pointer (some ⟨b,0,none⟩))∧w10.cell? ⟨b,67,none⟩=some (.int .u32 s.pc))∧w10.cell? ⟨q4,0,none⟩=some (.int .u32 x))∧(w10.cell? ⟨q6,0,none⟩=some (.slice aa nw ca)∧w10.cell? ⟨q7,0,none⟩=some (.bool true))):=⟨⟨⟨hc10 _ _ (by show w.heap.size≠w.heap.size+1;omega) hHeld.1.1.1,hc10 _ _ (by show b≠w.heap.size+1;have:=HFl.out b (.inl (.inl (.inl rfl)));omega) hHeld.1.1.2⟩,hc10 _ _ (by show q4≠w.heap.size+1;omega) hHeld.1.2⟩,⟨hc10 _ _ (by show q6≠w.heap.size+1;omega) hHeld.2.1,hc10 _ _ (by show q7≠w.heap.size+1;omega) hHeld.2.2⟩⟩;clear hq4 hq6 hq7;refine hK.out _ _ hH10 (fun _=>?_);clear hK K
  try simp only[Act.put,aT,aZ,aS]
  refine tk 9 hH10 ?_;refine wpAnyH_done (by kernel_rfl) ?_ _;have HX10:=Lib.hid hX10;have HR10:=Lib.hid hr10;have HFs:=Lib.hid hfs;clear hX10 hr10 hfs hc10 hH10 hw10 hHeld hH9 hne;go_wp2_with fail;refine bodyPost_ret (v:=.tuple #[.agg #[.int .u32 s.pc,.int .u32 x,.slice aa nw ca,.int .u32 0],.bool true]) (results_cell_tmp Tryz.results29 _ _ (w.heap.size+1) 42 _ (0,0) _ rfl HR10.out Tryz.underlying42 rfl (size62 _ _ _ _) _ rfl) rfl ?_;have hFw:Fr w w10 (allF b vo R M vt) (allF b vo R M (.slice none 0 0)):=⟨HFs.out.os.trans HFe.out.os,HFs.out.tape.trans HFe.out.tape,HFs.out.output.trans HFe.out.output,Nat.le_trans HFe.out.size HFs.out.size,fun k hk hn=>(HFs.out.block k (Nat.lt_of_lt_of_le hk HFe.out.size) (by omega)).trans (HFe.out.block k hk hn),HFe.out.foot⟩;refine⟨.slice none 0 0,HX10.out,hFw,aa,ca,?_,?_⟩
  ·simp only[wordsM_length,HNW.out]
  ·have h9:=own_fr HRw.out HFs.out (fun g e e2=>by have:=not_row_of HRw.out (show w9.heap[w.heap.size+1]?=_ from HR2e.out) (by decide);exact this (by rw[e,e2]))
   simp only[wordsM_length];rw[←HNW.out];exact h9
 ·go_simp
  have hb3:Below W2.heap.size W2 (W2.alloc (.cells #[.int .u32 0] 25)).drew:=(Bel.new W2 (.cells #[.int .u32 0] 25)).drew;have hH3:=HKp.out _ hb3;refine hK.out _ _ hH3 (fun _=>?_);clear hK K
  try simp only[Act.put,aT,aZ,aS]
  have hr4:(W2.alloc (.cells #[.int .u32 0] 25)).drew.heap[W2.heap.size]?=some (Obj.cells #[.int .u32 0] 25 (0,0)):=heap_alloc_new W2 (.cells #[.int .u32 0] 25);obtain⟨W3,hW3⟩:∃W3,W3=(W2.alloc (.cells #[.int .u32 0] 25)).drew:=⟨_,rfl⟩;rw[←hW3]at hb3 hH3 hr4⊢;clear hW3;refine rd 12 _ fun K hK=>?_;go_simp;refine(HG.out _).mono ?_;rintro e W9⟨rfl,rfl⟩;refine hK.out _ _ hH3 (fun _=>?_);clear hK K
  try simp only[Act.put,aT,aZ,aS]
  refine tk 13 hH3 ?_;refine tk 14 hH3 ?_;refine tk 15 hH3 ?_;obtain⟨q4,hq4⟩:∃q,q=W2.heap.size:=⟨_,rfl⟩;rw[←hq4]at hr4⊢;refine rd 17 ⟨none,.store 25 (.tmp 4) (.tmp 43),_,_,_,none⟩ fun K hK=>?_;rw[if_pos (by rfl)];refine outs_wp (R:=fun v W'=>v=undef∧W'=W3.setRow q4 #[.int .u32 x]) (outs_store_one 25 (.tmp 4) (.tmp 43) rfl q4 _ rfl rfl rfl 25 _ hr4 tinfo25 ⟨rfl,rfl⟩) ?_;rintro _ _⟨rfl,rfl⟩;have hb5:Below W2.heap.size W2 (W3.setRow q4 #[.int .u32 x]):=below_setRow hb3 _ (by omega) _;have hH5:=HKp.out _ hb5;have hr4b:(W3.setRow q4 #[.int .u32 x]).heap[q4]?=some (.cells #[.int .u32 x] 25 (0,0)):=setRow_heap _ _ _ _ _ _ hr4;refine hK.out _ _ hH5 (fun _=>?_);clear hK K
  try simp only[Act.put,aT,aZ,aS]
  refine tk 18 hH5 ?_;refine wpAnyH_done (by kernel_rfl) ?_ _;obtain⟨W4,hW4⟩:∃W4,W4=W3.setRow q4 #[.int .u32 x]:=⟨_,rfl⟩;rw[←hW4]at hb5 hr4b hH5⊢;clear hW4 hH3 hr4 hb3 hHeld y1 y69 yg;have hw4:=Bel.tr HW2.out hb5;have HB4:=Lib.hid hb5;have HR4:=Lib.hid hr4b;have HQ4:=Lib.hid hq4;clear hb5 hr4b hH5 hq4;obtain⟨W5,hW5⟩:∃W5,W5=(W4.alloc (.cells #[.slice none 0 0] 23)).alloc (.cells #[.bool false] 4):=⟨_,rfl⟩;have hb45:Below W4.heap.size W4 W5:=by rw[hW5];exact Bel.al (Bel.new _ _) _
  have hr6:W5.heap[W4.heap.size]?=some (.cells #[.slice none 0 0] 23 (0,0)):=by rw[hW5,Below.heap_alloc _ _ _ (by simp)];exact heap_alloc_new _ _
  have hr7:W5.heap[W4.heap.size+1]?=some (.cells #[.bool false] 4 (0,0)):=by
   rw[hW5];have:=heap_alloc_new (W4.alloc (.cells #[.slice none 0 0] 23)) (.cells #[.bool false] 4)
   simpa using this
  have hl4:q4<W4.heap.size:=(Array.getElem?_eq_some_iff.1 HR4.out).1;have hr4:=(hb45.block _ hl4).trans HR4.out;have hwl4:w.heap.size+1<W4.heap.size:=Nat.lt_of_lt_of_le hwl HB4.out.size;have hr1:=(hb45.block _ (show w.heap.size<W4.heap.size by omega)).trans ((HB4.out.block _ (show w.heap.size<W2.heap.size by omega)).trans HK1.out);have hr2:=(hb45.block _ hwl4).trans ((HB4.out.block _ hwl).trans HK2.out);obtain⟨q6,hq6⟩:∃q,q=W4.heap.size:=⟨_,rfl⟩;obtain⟨q7,hq7⟩:∃q,q=W4.heap.size+1:=⟨_,rfl⟩;have hw5:=Bel.tr hw4 hb45;have hx5:=HX.out W5 hw5;have hq4:=HQ4.out;have hnf:∀q,w.heap.size≤q→¬allF b vo R M vt q:=fun q h e=>by have:=HFl.out _ e;omega
  rw[←hq6]at hr6;rw[←hq7]at hr7;have HUn:=Lib.hid (unseen_any (b:=b) (K:=K) (s:=s) (vo:=vo) (R:=R) (M:=M) (logs:=R.on) (evs:=evs) (lg:=lg) (w:=W5) (f:=65) (caps:=#[.pointer (some ⟨w.heap.size,0,none⟩),.pointer (some ⟨q4,0,none⟩),.pointer (some ⟨q6,0,none⟩),.pointer (some ⟨q7,0,none⟩)]) (fun W=>by simp[go_sem]) (wt1_yes hx5 (Bel.tr HHome.out.b hw5) HGt.out hx9 hs9 hn9 hn15 hr1 hr4 hr6 hr7 (hnf _ (Nat.le_refl _)) (hnf _ (by omega)) (hnf _ (by omega)) (hnf _ (by omega)) (by omega) (by omega) (by omega) (by omega) (by omega)));have HR1:=Lib.hid hr1;have HR2:=Lib.hid hr2;have HR4b:=Lib.hid hr4;have HW5:=Lib.hid hw5;have HNF:=Lib.hid hnf;have hw45:=hb45.size;have hlq7:q7<W5.heap.size:=(Array.getElem?_eq_some_iff.1 hr7).1;have hMp:M.p<w.heap.size:=HFl.out _ (.inl (.inr (.inl rfl)));have HQ6:=Lib.hid hq6;have HQ7:=Lib.hid hq7;have e67:q6+1=q7:=by omega
  have HE67:=Lib.hid e67;clear hb45 hr6 hr7 hr4 hr1 hr2 hx5 hnf hw5 hq4 hq6 hq7 e67;have hl1:((W4.alloc (.cells #[.slice none 0 0] 23)).alloc (.cells #[.bool false] 4)).cell? ⟨w.heap.size,0,none⟩=some (.pointer (some ⟨b,0,none⟩)):=by rw[←hW5];exact cell_of_row W5 w.heap.size 0 _ _ _ HR1.out
  go_wp2_with fail;clear hl1;rw[←hW5];rw[←HQ6.out]
  try rw[HE67.out]
  clear hW5;refine HUn.out.mono ?_;rintro e w9⟨rfl,w8,hΨ,hX9,hf9⟩;have hq4:=HQ4.out;have hq6:=HQ6.out;have hq7:=HQ7.out;obtain⟨aa,ca,h6,h7,hrow,hf8⟩:=hΨ;obtain⟨nw,hnw⟩:∃nw,nw=nn:=⟨_,rfl⟩;rw[←hnw]at h6 hrow;have np:∀q,w.heap.size≤q→¬q=M.p:=fun q h e=>by omega
  have n8:∀q,w.heap.size≤q→q≠q6→q≠q7→¬(allF b vo R M vt q∨q=q6∨q=q7):=fun q h h1 h2 e=>e.elim (HNF.out q h) (fun e=>e.elim h1 h2);have r1:=hf9.row (hf8.row HR1.out (n8 _ (Nat.le_refl _) (by omega) (by omega))) (np _ (Nat.le_refl _));have r2:=hf9.row (hf8.row HR2.out (n8 _ (by omega) (by omega) (by omega))) (np _ (by omega));have r4:=hf9.row (hf8.row HR4b.out (n8 _ (by omega) (by omega) (by omega))) (np _ (by omega));have r6:=hf9.row h6 (np _ (by omega));have r7:=hf9.row h7 (np _ (by omega));have k67:=hX9.m.o.m.cells.c67;simp only[macV]at k67
  have hFF:Fr w w9 (allF b vo R M vt) (allF b vo R M (.slice none 0 0)):=by
   have f5:=Fr.of HW5.out (allF b vo R M vt);refine⟨hf9.os.trans (hf8.os.trans f5.os),hf9.tape.trans (hf8.tape.trans f5.tape),hf9.output.trans (hf8.output.trans f5.output),Nat.le_trans f5.size (Nat.le_trans hf8.size hf9.size),fun k hk hn=>?_,fun k hk=>?_⟩
   ·have l5:=Nat.lt_of_lt_of_le hk f5.size
    have nq6:k≠q6:=(by omega);have nq7:k≠q7:=(by omega);exact((hf9.block k (Nat.lt_of_lt_of_le l5 hf8.size) (fun e=>hn (.inl (.inr (.inl e))))).trans (hf8.block k l5 (fun e=>e.elim hn (fun e=>e.elim nq6 nq7)))).trans (f5.block k hk hn)
   ·rcases hk with(hk|hk|hk|hk)|hk|hk
    ·exact .inl (.inl (.inl hk))
    ·exact .inl (.inl (.inr (.inl hk)))
    ·exact .inl (.inl (.inr (.inr (.inl hk))))
    ·cases hk
    ·exact .inl (.inr (.inl hk))
    ·exact .inl (.inr (.inr hk))
  have hrw9:w9.ownsRow w.heap.size 25 1 (.slice aa nw ca) nw (encN .u32 (wordsM s.data s.sp nw)):=own_downT (own_fr hrow hf9 (fun g e e2=>by have:=(hrow.lt g e).1;omega)) (by have:=HW5.out.size;omega);have HXe:=Lib.hid hX9;have HFe:=Lib.hid hFF;have HR2e:=Lib.hid (show w9.drew.heap[w.heap.size+1]?=_ from r2);have HRw:=Lib.hid hrw9;have HNW:=Lib.hid hnw;clear hrw9 hrow hnw;have hH9:(((w9.drew.cell? ⟨w.heap.size,0,none⟩=some (.pointer (some ⟨b,0,none⟩))∧w9.drew.cell? ⟨b,67,none⟩=some (.int .u32 s.pc))∧w9.drew.cell? ⟨q4,0,none⟩=some (.int .u32 x))∧(w9.drew.cell? ⟨q6,0,none⟩=some (.slice aa nw ca)∧w9.drew.cell? ⟨q7,0,none⟩=some (.bool true))):=⟨⟨⟨cell_of_row w9 w.heap.size 0 _ _ _ r1,k67⟩,cell_of_row w9 q4 0 _ _ _ r4⟩,⟨cell_of_row w9 q6 0 _ _ _ r6,cell_of_row w9 q7 0 _ _ _ r7⟩⟩;have hbl9:=hX9.m.lt;clear hX9 hFF hf8 hf9 r1 r2 r4 r6 r7 h6 h7 k67 hq4 hq6 hq7;go_wp2_with fail;refine wp_region_held_drew (S:=fun W=>(((W.cell? ⟨w.heap.size,0,none⟩=some (.pointer (some ⟨b,0,none⟩))∧W.cell? ⟨b,67,none⟩=some (.int .u32 s.pc))∧W.cell? ⟨q4,0,none⟩=some (.int .u32 x))∧(W.cell? ⟨q6,0,none⟩=some (.slice aa nw ca)∧W.cell? ⟨q7,0,none⟩=some (.bool true)))) hmx hH9 (fun hHeld=>?_);refine tk 0 hHeld ?_;refine tk 1 hHeld ?_;refine tk 2 hHeld ?_;refine tk 3 hHeld ?_;refine tk 4 hHeld ?_;refine tk 5 hHeld ?_;refine tk 6 hHeld ?_;refine tk 7 hHeld ?_;refine rd 8 ⟨none,.store 42 (.tmp 2) (.tmp 57),_,_,_,none⟩ fun K hK=>?_;rw[if_pos (by rfl)];refine outs_wp (R:=fun v W'=>v=undef∧W'=w9.drew.setRow (w.heap.size+1) #[.int .u32 s.pc,.int .u32 x,.slice aa nw ca,.int .u32 0]) (outs_store_row 42 (.tmp 2) (.tmp 57) rfl (w.heap.size+1) _ rfl rfl 42 _ HR2e.out info62 (by rfl) (by simp[Value.oneCell']) ⟨rfl,rfl⟩) ?_;rintro _ _⟨rfl,rfl⟩;have hq4:=HQ4.out;have hq6:=HQ6.out;have hq7:=HQ7.out;have hfs:Fr w9 (w9.drew.setRow (w.heap.size+1) #[.int .u32 s.pc,.int .u32 x,.slice aa nw ca,.int .u32 0]) (fun k=>k=w.heap.size+1) (fun k=>k=w.heap.size+1):=⟨rfl,rfl,rfl,by rw[setRow_size];exact Nat.le_refl _,fun k hk hn=>setRow_other _ _ _ _ hn,fun k hk=>.inl hk⟩;obtain⟨w10,hw10⟩:∃w10,w10=w9.drew.setRow (w.heap.size+1) #[.int .u32 s.pc,.int .u32 x,.slice aa nw ca,.int .u32 0]:=⟨_,rfl⟩;have hr10:w10.heap[w.heap.size+1]?=some (.cells #[.int .u32 s.pc,.int .u32 x,.slice aa nw ca,.int .u32 0] 42 (0,0)):=by rw[hw10];exact setRow_heap _ _ _ _ _ _ HR2e.out
  rw[←hw10]at hfs⊢
  have hne:∀k,allF b vo R M (.slice none 0 0) k→¬k=w.heap.size+1:=by
   rintro k ((hk|hk|hk|hk)|hk|hk) e
   ·have:=HFl.out k (.inl (.inl hk));omega
   ·have:=HFl.out k (.inl (.inr (.inl hk)));omega
   ·have:=HFl.out k (.inl (.inr (.inr (.inl hk))));omega
   ·cases hk
   ·have:=HFl.out k (.inr (.inl hk));omega
   ·have:=HFl.out k (.inr (.inr hk));omega
  have hX10:=HXe.out.fr' hfs hne (fun y hy g hg e=>by have:=not_row_of (HXe.out.ea y hy) (show w9.heap[w.heap.size+1]?=_ from HR2e.out) (by decide);exact this (by rw[hg,e]));have hc10:∀p v,p.block≠w.heap.size+1→w9.drew.cell? p=some v→w10.cell? p=some v:=fun p v hp hv=>by rw[hw10,World.cell?_of_block (setRow_other _ _ _ _ hp)];exact hv
  have hH10:(((w10.cell? ⟨w.heap.size,0,none⟩=some (.pointer (some ⟨b,0,none⟩))∧w10.cell? ⟨b,67,none⟩=some (.int .u32 s.pc))∧w10.cell? ⟨q4,0,none⟩=some (.int .u32 x))∧(w10.cell? ⟨q6,0,none⟩=some (.slice aa nw ca)∧w10.cell? ⟨q7,0,none⟩=some (.bool true))):=⟨⟨⟨hc10 _ _ (by show w.heap.size≠w.heap.size+1;omega) hHeld.1.1.1,hc10 _ _ (by show b≠w.heap.size+1;have:=HFl.out b (.inl (.inl (.inl rfl)));omega) hHeld.1.1.2⟩,hc10 _ _ (by show q4≠w.heap.size+1;omega) hHeld.1.2⟩,⟨hc10 _ _ (by show q6≠w.heap.size+1;omega) hHeld.2.1,hc10 _ _ (by show q7≠w.heap.size+1;omega) hHeld.2.2⟩⟩;clear hq4 hq6 hq7;refine hK.out _ _ hH10 (fun _=>?_);clear hK K
  try simp only[Act.put,aT,aZ,aS]
  refine tk 9 hH10 ?_;refine wpAnyH_done (by kernel_rfl) ?_ _;have HX10:=Lib.hid hX10;have HR10:=Lib.hid hr10;have HFs:=Lib.hid hfs;clear hX10 hr10 hfs hc10 hH10 hw10 hHeld hH9 hne;go_wp2_with fail;refine bodyPost_ret (v:=.tuple #[.agg #[.int .u32 s.pc,.int .u32 x,.slice aa nw ca,.int .u32 0],.bool true]) (results_cell_tmp Tryz.results29 _ _ (w.heap.size+1) 42 _ (0,0) _ rfl HR10.out Tryz.underlying42 rfl (size62 _ _ _ _) _ rfl) rfl ?_;have hFw:Fr w w10 (allF b vo R M vt) (allF b vo R M (.slice none 0 0)):=⟨HFs.out.os.trans HFe.out.os,HFs.out.tape.trans HFe.out.tape,HFs.out.output.trans HFe.out.output,Nat.le_trans HFe.out.size HFs.out.size,fun k hk hn=>(HFs.out.block k (Nat.lt_of_lt_of_le hk HFe.out.size) (by omega)).trans (HFe.out.block k hk hn),HFe.out.foot⟩;refine⟨.slice none 0 0,HX10.out,hFw,aa,ca,?_,?_⟩
  ·simp only[wordsM_length,HNW.out]
  ·have h9:=own_fr HRw.out HFs.out (fun g e e2=>by have:=not_row_of HRw.out (show w9.heap[w.heap.size+1]?=_ from HR2e.out) (by decide);exact this (by rw[e,e2]))
   simp only[wordsM_length];rw[←HNW.out];exact h9
end
open Go
section
variable {w0 w:World} {b:Nat} {K:MacK} {s:St} {vo:Value} {R:MacR} {M:MemK} {vt:Value} {evs:List (Ev×Value)} {lg:List (Nat×Bool)} {gr:List (Nat×Int)} {mb:Nat} {m:Img} {reps:List Rep}
theorem waits_any (H:AH w0 w b K s vo R M vt R.on [] evs lg gr mb m reps) :
 Calls Tryz.prog 29 #[.pointer (some ⟨b,0,none⟩)] w (WaitPost (waitsM (moOf m) gr reps s) b K s vo R M vt evs lg w):=by
 have F:=H.f;have hsys:sysM (moOf m) s=if opAt m.code s.pc=5∧2147483648≤topW s 0 then some (4294967295 - topW s 0)else none:=rfl;by_cases c5:opAt m.code s.pc=5
 ·obtain⟨l,x,hl⟩:=pop_of (l:=s.ops) (by have htk3:=F.htk3;rw[c5]at htk3;have:takesOf 5=1:=(by decide+kernel);omega)
  obtain⟨ol1,ol2',ol3⟩:=F.ol l x hl;obtain⟨tw1,tw2⟩:=topW_one hl;rw[tw1]at hsys;have hst:=H.st
  match reps,H with
  | r::rs,H=>
   have hw:waitsM (moOf m) gr (r::rs) s=none:=by unfold waitsM;cases sysM (moOf m) s<;>rfl
   rw[hw];exact wait_rep H c5 (by simp)
  | [],H=>
   by_cases hx:2147483648≤x
   ·rw[if_pos ⟨c5,hx⟩]at hsys
    cases hg:grantedN gr (4294967295 - x)with
    | none=>
     have hw:waitsM (moOf m) gr [] s=none:=(by unfold waitsM;rw[hsys];simp only[hg,Option.map_none]);rw[hw];exact wait_sysno H c5 rfl hl (by omega) hx (by omega) hg
    | some n=>
     obtain⟨g0,g15⟩:=(show GrOk gr from by obtain⟨_,_,_,_,_,h⟩:=hst.gate;exact h).bd hg;obtain⟨k,rfl⟩:∃k:Nat,n=k:=⟨n.toNat,by omega⟩;have hw:waitsM (moOf m) gr [] s=some ⟨s.pc,4294967295 - x,wordsM s.data s.sp k,0⟩:=(by unfold waitsM;rw[hsys];simp only[hg,Option.map_some,Int.toNat_natCast]);rw[hw];exact wait_sys H c5 rfl hl (by omega) hx (by omega) hg (by omega)
   ·rw[if_neg (fun e=>hx e.2)]at hsys
    have hw:waitsM (moOf m) gr [] s=none:=(by unfold waitsM;rw[hsys]);rw[hw];exact wait_num H c5 rfl hl (by omega) (by omega)
 ·rw[if_neg (fun e=>c5 e.1)]at hsys
  have hw:waitsM (moOf m) gr reps s=none:=by unfold waitsM;rw[hsys]
  rw[hw];exact wait_op H c5
end
end Go.Proofs.YtdffaepbkecoeaaGreat
