import Derived.Test.YtdffaepbkecoeaaGreatC7
set_option maxRecDepth 100000
set_option maxHeartbeats 8000000
namespace Go.Proofs.YtdffaepbkecoeaaGreat
open Go.RowKit
set_option linter.unusedVariables false
set_option linter.unusedSimpArgs false
theorem encT_at:∀(l:List (Nat×Bool)) (k:Nat),k<l.length→(encT l)[k*2]?=some (.int .u32 (l.getD k (0,false)).1)
 | [],k,h=>absurd h (Nat.not_lt_zero k)
 | x::l,0,_=>rfl
 | x::l,k+1,h=>by
  have:=encT_at l k (by simpa using h);rw[show(k+1)*2=k*2+1+1 from by omega]
  simpa[encT]using this
theorem cont_res {mo:Mo} {gr:List (Nat×Int)} (hg:∀g∈gr,0≤g.2) (f:Nat) (reps:List Rep) (s:St) {g:GoR} {r:Res} (h:g=goM mo gr f reps s) (hr:r=resOf reps.length g) :
 r.used≤f∧r.nrep=r.ev.length∧r.ev.length≤reps.length∧r.ev.length≤r.used∧EvOk gr reps r.ev∧(s.life=1→1≤r.used∨(r.used=0∧f=0)∨(r.used=0∧r.en=4)):=by
 obtain⟨e1,e2,e3,e4⟩:=goM_ev mo gr hg f reps s;have u1:=goM_used mo gr f reps s;rw[←h]at e1 e2 e3 e4 u1;have l1:g.reps.length=reps.length - g.ev.length:=by rw[e1,List.length_drop]
 have o1:r.nrep=g.ev.length∧r.used=g.used∧r.ev=g.ev:=by
  rw[hr];unfold resOf
  split
  ·exact⟨by show reps.length - g.reps.length=_;omega,rfl,rfl⟩
  ·exact⟨by show reps.length - g.reps.length=_;omega,rfl,rfl⟩
 refine⟨by omega,by rw[o1.1,o1.2.2],by rw[o1.2.2];exact e2,by rw[o1.2.2,o1.2.1];exact e4,by rw[o1.2.2];exact e3,fun hl=>?_⟩;cases f with
 | zero=>exact .inr (.inl ⟨by omega,rfl⟩)
 | succ f=>
  rcases goM_one mo gr f reps s hl with⟨-,h1⟩|⟨hw,h1⟩
  ·left;rw[o1.2.1,h];exact h1
  ·right;right
   rw[←h]at h1;refine⟨by rw[o1.2.1,h1],?_⟩;rw[hr,h1];unfold resOf;rw[if_pos hl];cases hwe:waitsM mo gr reps s with
   | none=>exact absurd hwe hw
   | some _=>rfl
section
variable {w:World}
theorem runContained_walk {vc vj vd vn vg va vr:Value} {m:Img} {gr:List (Nat×Int)} {at_:Nat} {args:List Nat} {nf:Int} {reps:List Rep} (hi:ImgAt w vc vj vd vn m) (hg:GrantsAt w vg gr) (ha:at_<4294967296) (hv:Words w va args) (hr:RepsAt w vr reps) :
 Calls Tryz.prog 6 #[.agg #[vc,vj,vd,.int .u32 m.zero,.int .u32 m.stack,vn,vg],.int .u32 at_,va,.int .i64 nf,vr] w fun e w'=>e=.returned (.bool true)∧Below w.heap.size w w':=by
 have hmx:Tryz.prog.follows .mixedOrders=true:=by kernel_rfl
 obtain⟨ac,nc,cc,hvc⟩:∃a n c,vc=.slice a n c:=by obtain⟨⟨a,c,h,-⟩,-⟩:=hi.c;exact⟨a,_,c,h⟩
 obtain⟨aj,nj,cj,hvj⟩:∃a n c,vj=.slice a n c:=by obtain⟨⟨a,c,h,-⟩,-⟩:=hi.j;exact⟨a,_,c,h⟩
 obtain⟨ad,nd,cd,hvd⟩:∃a n c,vd=.slice a n c:=by obtain⟨⟨a,c,h,-⟩,-⟩:=hi.d;exact⟨a,_,c,h⟩
 obtain⟨an,nn,cn,hvn⟩:∃a n c,vn=.slice a n c:=by obtain⟨⟨a,c,h,-⟩,-⟩:=hi.n;exact⟨a,_,c,h⟩
 obtain⟨ag,cg,hvg,hgl,hgc,hgm,-,hgp⟩:=id hg.1;obtain⟨ng,hng⟩:∃ng,ng=gr.length:=⟨_,rfl⟩;rw[←hng]at hvg hgp;obtain⟨aa,na,ca,hva⟩:∃a n c,va=.slice a n c:=by obtain⟨⟨a,c,h,-⟩,-⟩:=hv;exact⟨a,_,c,h⟩
 obtain⟨ar,cr,hvr,hnc,hcm,-,hrp⟩:=id hr;obtain⟨nr,hnr⟩:∃nr,nr=reps.length:=⟨_,rfl⟩;rw[←hnr]at hvr hnc hrp;subst hvc hvj hvd hvn hvg hva hvr;have HRun:=Lib.hid (fun W (hW:Below w.heap.size w W)=>running_any (hi.below hW) (hg.below hW) ha (hv.below hW));obtain⟨ze,hze⟩:∃ze,ze=m.zero:=⟨_,rfl⟩;obtain⟨st,hst⟩:∃st,st=m.stack:=⟨_,rfl⟩;rw[←hze,←hst]at HRun⊢;obtain⟨W1,hW1⟩:∃W1,W1=w.alloc (.cells #[.slice ac nc cc,.slice aj nj cj,.slice ad nd cd,.int .u32 ze,.int .u32 st,.slice an nn cn,.slice ag ng cg] 31):=⟨_,rfl⟩;have HB1:=Lib.hid (show Below w.heap.size w W1 from by rw[hW1];exact Bel.new _ _);have HR1:=Lib.hid (show W1.heap[w.heap.size]?=some (.cells #[.slice ac nc cc,.slice aj nj cj,.slice ad nd cd,.int .u32 ze,.int .u32 st,.slice an nn cn,.slice ag ng cg] 31 (0,0))from by rw[hW1];exact heap_alloc_new _ _);have HRe:=Lib.hid hr;have HNR:=Lib.hid (And.intro hnr (And.intro hnc hcm));have HGP:=Lib.hid (And.intro hng (And.intro hgp (And.intro hgc hgm)));have HRP:=Lib.hid hrp;obtain⟨Ψ,hΨ⟩:∃Ψ:World→Prop,Ψ=fun w'=>Below w.heap.size w w':=⟨_,rfl⟩;have HPsi:=Lib.hid (fun w' (h:Below w.heap.size w w')=>(by rw[hΨ];exact h:Ψ w'));have hgoal:(fun (e:Ending) w'=>e=.returned (.bool true)∧Below w.heap.size w w')=(fun e w'=>e=.returned (.bool true)∧Ψ w'):=by rw[hΨ]
 rw[hgoal];clear hi hg hv hr hnr hnc hcm hze hst hΨ hgoal hgp hng hgl hgc hgm hrp;go_enter Tryz.func6,Tryz.ntmps6;go_wp2_with fail;rw[←hW1];clear hW1;refine(rawake_any W1).mono ?_;rintro e w1⟨rfl,hb1⟩;have hr1:=(hb1.block _ (Array.getElem?_eq_some_iff.1 HR1.out).1).trans HR1.out;have c0:=cell_of_row w1 w.heap.size 0 _ _ _ hr1;have c1:=cell_of_row w1 w.heap.size 1 _ _ _ hr1;have c2:=cell_of_row w1 w.heap.size 2 _ _ _ hr1;have c3:=cell_of_row w1 w.heap.size 3 _ _ _ hr1;have c4:=cell_of_row w1 w.heap.size 4 _ _ _ hr1;have c5:=cell_of_row w1 w.heap.size 5 _ _ _ hr1;have c6:=cell_of_row w1 w.heap.size 6 _ _ _ hr1;have HBw1:=Lib.hid (Bel.tr HB1.out hb1);have HRw1:=Lib.hid hr1;clear hr1 hb1;go_wp2_with fail;clear c0 c1 c2 c3 c4 c5 c6;refine(HRun.out w1 HBw1.out).mono ?_;rintro e w2⟨hb2,⟨hno,rfl⟩|⟨hok,w0,b,K,M,mb,rfl,hb0,hrd,-,-⟩⟩
 ·have HB2:=Lib.hid (Bel.tr HBw1.out hb2)
  clear hb2;go_wp2_with fail;go_ret;exact⟨rfl,HPsi.out _ HB2.out⟩
 have HBw0:=Lib.hid (Bel.tr HBw1.out hb0);have HRw0:=Lib.hid (row_below HRw1.out hb0);have HOk:=Lib.hid hok;obtain⟨s0,hs0⟩:∃s0,s0=startM (moOf m) (moOf m).fst at_ args:=⟨_,rfl⟩;rw[←hs0]at hrd;have HRd:=Lib.hid hrd;have HLog:=Lib.hid (mlog_all hrd.x hrd.st.md true);obtain⟨dg,hdg⟩:∃d,d=digN m:=⟨_,rfl⟩;have HDg:=Lib.hid (fun W (h:MAt W mb m)=>h.digest);rw[←hdg]at HDg;have hm2:=hrd.home.mat hrd.st.mod;have HS0:=Lib.hid (show s0.life=1 from by rw[hs0];rfl);clear hb2 hb0 hok hs0 hrd hdg;go_wp2_with fail;refine(HDg.out w2 hm2).mono ?_;rintro e w9⟨rfl,rfl⟩;clear hm2;go_wp2_with fail;refine HLog.out.mono ?_;rintro e w3⟨rfl,hx3,hf3⟩;have hrd3:Rdy w0 w3 b K s0 (.slice none 0 0) {R0 with on:=true,log:=.slice none 0 0} M (.slice none 0 0) [] gr mb m:=⟨HRd.out.st,hx3,HRd.out.home.fr hf3,HRd.out.wf,HRd.out.fit,rfl,rfl⟩;have HRd3:=Lib.hid hrd3;have HF1:=Lib.hid (show Calls Tryz.prog 10 #[.int .i64 nf,.int .i64 65536] w3 (fun e w'=>e=.returned (.int .i64 (pickN nf 65537:Nat))∧w'=w3)from few_any nf 65536 (by decide) w3);have hp1:pickN nf 65537≤65536:=by have:=pickN_lt nf 65537 (by decide);omega
 obtain⟨f1,hf1⟩:∃f1,f1=pickN nf 65537:=⟨_,rfl⟩;rw[←hf1]at HF1 hp1;have HRS:=Lib.hid (RepsS.home hrd3.home (HRe.out.below HBw0.out));clear hx3 hf3 hrd3 hf1 HRd HLog;go_wp2_with fail;refine HF1.out.mono ?_;rintro e w9⟨rfl,rfl⟩;go_wp2_with fail;by_cases hfit:repsFit reps=true
 ·have HGo1:=Lib.hid (go_any HRd3.out hp1 HRS.out hfit)
  clear hfit;refine HGo1.out.mono ?_;rintro e w4⟨v,vo1,R1,vt1,rfl,hres1,hrd1,hon,-⟩;clear HGo1;obtain⟨gw,hgw⟩:∃gw,gw=goM (moOf m) gr f1 reps s0:=⟨_,rfl⟩;rw[←hgw]at hres1 hrd1;obtain⟨rX,hrX⟩:∃r,r=resOf reps.length gw:=⟨_,rfl⟩;rw[←hrX]at hres1;have htl:touL true [] gw.tou=([]++gw.tou).take 65536:=rfl;obtain⟨lg1,hlg⟩:∃l,l=touL true [] gw.tou:=⟨_,rfl⟩;rw[←hlg]at hrd1 htl;obtain⟨s1,hs1⟩:∃s1,s1=gw.st:=⟨_,rfl⟩;rw[←hs1]at hrd1;obtain⟨ve1,va1,rfl,hev1,hva1,hvo1⟩:=id hres1;obtain⟨p1,n1,c1,hve1⟩:∃a n c,ve1=.slice a n c:=by obtain⟨xs,-,ho,-⟩:=hev1;obtain⟨a,c,h,-⟩:=own_sl ho;exact⟨a,_,c,h⟩
  obtain⟨p2,n2,c2,hva1'⟩:∃a n c,va1=.slice a n c:=by obtain⟨a,c,h,-⟩:=own_sl hva1;exact⟨a,_,c,h⟩
  subst hve1 hva1';unfold resRow;obtain⟨W5,hW5⟩:∃W5,W5=w4.alloc (.cells #[.int .u8 rX.en,.int .u32 rX.at_,.int .u32 rX.value,.int .u8 rX.fault,.int .i64 rX.used,.int .i64 rX.nrep,.slice p1 n1 c1,.int .u32 rX.ask.at_,.int .u32 rX.ask.num,.slice p2 n2 c2,.int .u32 rX.ask.val] 44):=⟨_,rfl⟩;have hb5:Below w4.heap.size w4 W5:=by rw[hW5];exact Bel.new _ _
  have HQ1:=Lib.hid (show W5.heap[w4.heap.size]?=some (.cells #[.int .u8 rX.en,.int .u32 rX.at_,.int .u32 rX.value,.int .u8 rX.fault,.int .i64 rX.used,.int .i64 rX.nrep,.slice p1 n1 c1,.int .u32 rX.ask.at_,.int .u32 rX.ask.num,.slice p2 n2 c2,.int .u32 rX.ask.val] 44 (0,0))from by rw[hW5];exact heap_alloc_new _ _);have hrd5:=hrd1.below hb5;have HSt:=Lib.hid (mstate_any hrd5.x.m hrd5.st.md hrd5.ops);have HRd5:=Lib.hid hrd5;have HEv5:=Lib.hid (hev1.fr (Fr.of hb5 _));have HFl:=Lib.hid hrd1.x.flt;have HG:=Lib.hid (And.intro hgw (And.intro hrX (And.intro htl hs1)));clear hres1 hrd1 hev1 hva1 hvo1 hgw hrX htl hlg hs1 hb5 hrd5;go_wp2_with fail;rw[←hW5];clear hW5;refine HSt.out.mono ?_;rintro e w6⟨v1,v2,rfl,ho1,ho2,hb6⟩;obtain⟨o1,o2,hv1,-⟩:=own_sl ho1;obtain⟨d1,d2,hv2,-⟩:=own_sl ho2;obtain⟨no,hno⟩:∃no,no=s1.ops.length:=⟨_,rfl⟩;obtain⟨nd2,hnd2⟩:∃nd2,nd2=M.N:=⟨_,rfl⟩;rw[←hno]at hv1 ho1;rw[←hnd2]at hv2 ho2;subst hv1 hv2;unfold stV;obtain⟨W7,hW7⟩:∃W7,W7=w6.alloc (.cells #[.int .u8 s1.life,.int .u32 s1.pc,.int .u32 s1.sp,.slice o1 no o2,.slice d1 nd2 d2,.int .u32 s1.value,.int .u8 s1.fault] 51):=⟨_,rfl⟩;have hb7:Below w6.heap.size w6 W7:=by rw[hW7];exact Bel.new _ _
  have hr7:W7.heap[w6.heap.size]?=some (.cells #[.int .u8 s1.life,.int .u32 s1.pc,.int .u32 s1.sp,.slice o1 no o2,.slice d1 nd2 d2,.int .u32 s1.value,.int .u8 s1.fault] 51 (0,0)):=by rw[hW7];exact heap_alloc_new _ _
  have hB57:=Bel.tr hb6 hb7;have hrd7:=HRd5.out.below hB57;have HTo:=Lib.hid (mtouched_all hrd7.x hrd7.st.md);obtain⟨la,lc,hlv,-⟩:=own_sl hrd7.x.lr;have HS7:=Lib.hid (And.intro (own_below ho1 hb7) (own_below ho2 hb7));have HN:=Lib.hid (And.intro hno hnd2);have HR7:=Lib.hid (And.intro hr7 (row_below HQ1.out hB57));have HRd7:=Lib.hid hrd7;have HB56:=Lib.hid hb6;have HEv7:=Lib.hid (HEv5.out.fr (Fr.of hB57 _));clear ho1 ho2 hno hnd2 hb6 hb7 hr7 hrd7 hB57;go_wp2_with fail;rw[←hW7];clear hW7;refine HTo.out.mono ?_;rintro e w8⟨rfl,hx8,hlr8,hfr8⟩;rw[hlv];rw[hlv]at hlr8;obtain⟨la',lc',e9,-,-,hlp⟩:=own_sl hlr8;cases e9;obtain⟨nl,hnl⟩:∃n,n=lg1.length:=⟨_,rfl⟩;rw[←hnl]at hlp hlv⊢;have hrd8:Rdy w0 w8 b K s1 vo1 {R1 with log:=.slice none 0 0} M vt1 [] gr mb m:=⟨HRd7.out.st,hx8,HRd7.out.home.fr hfr8,HRd7.out.wf,HRd7.out.fit,HRd7.out.rn,HRd7.out.en⟩;have hq5:=(Array.getElem?_eq_some_iff.1 HQ1.out).1;have hr14:=hfr8.row HR7.out.2 (fun e=>by have:=HFl.out _ e;omega);have hs67:w4.heap.size≤w6.heap.size:=Nat.le_trans (Nat.le_of_lt hq5) HB56.out.size;have hr16:=hfr8.row HR7.out.1 (fun e=>by have:=HFl.out _ e;omega);have hs1:=own_fr HS7.out.1 hfr8 (fun g e e2=>by have:=(HS7.out.1.lt g e).1;have:=HFl.out _ e2;omega);have hs2:=own_fr HS7.out.2 hfr8 (fun g e e2=>by have:=(HS7.out.2.lt g e).1;have:=HFl.out _ e2;omega);have HSt8:=Lib.hid (stAt_own (s:=s1) hs1 hs2 HN.out.1 (by rw[HN.out.2];exact HRd7.out.x.m.mem.len.symm) HRd7.out.small);have HR14:=Lib.hid hr14;have HR16:=Lib.hid hr16;have HRd8:=Lib.hid hrd8;have HEv8:=Lib.hid (HEv7.out.fr hfr8);have HLP:=Lib.hid hlp;have HNL:=Lib.hid hnl;have hsz:nd2=(moOf m).size:=by rw[HN.out.2,←HRd7.out.x.m.mem.len];exact fits_len HRd7.out.fit
  have hm0:0<(moOf m).size:=by show 0<2 ^ (moOf m).k;exact Nat.pos_of_ne_zero (by simp)
  have HT:Hid (∀k,k<nl→(lg1.getD k (0,false)).1<nd2):=Lib.hid (fun k hk=>by
   have h2:∀x∈lg1,x∈gw.tou:=fun x hx=>by rw[HG.out.2.2.1,List.nil_append]at hx;exact List.mem_of_mem_take hx
   have h1:=h2 _ (show lg1.getD k (0,false)∈lg1 from by rw[List.getD_eq_getElem?_getD,List.getElem?_eq_getElem (by omega)];exact List.getElem_mem _);rw[hsz];rw[HG.out.1]at h1
   exact goM_in (moOf m) gr hm0 f1 reps s0 _ h1)
  have hnd9:nd2≤65536:=by
   rw[hsz];have:=(moOk HRd7.out.st.mod.k).k16;exact Nat.le_trans (Nat.pow_le_pow_right (n:=2) (by decide) this) (by decide)
  have hnl9:nl≤65536:=by have:=HRd7.out.x.ll;omega
  have HRp8:=Lib.hid (HRe.out.below (Bel.tr HBw0.out hrd8.home.b));have HRw8:=Lib.hid (row_below HRw0.out hrd8.home.b);have HB08:=Lib.hid (Bel.tr HBw0.out hrd8.home.b);clear hrd8 hq5 hr14 hs67 hr16 hs1 hs2 hnl hsz hm0 hlp hlr8 hx8 hfr8 hlv HTo;go_wp2_with fail
  go_loopw[18] (fun i wr=>∃k:Nat,k≤nl∧i=.int .i64 k∧Below w8.heap.size w8 wr) (fun i _=>nl - (intOf i).toNat)
  case atStart=>exact⟨0,by omega,rfl,Below.refl _ _⟩
  case round=>
   obtain⟨k,hk,rfl,hb⟩:=hrel;have HB:=Lib.hid hb;clear hb;by_cases hlt:k<nl
   ·obtain⟨g1,rfl,hg1,hc1⟩:=HLP.out (by omega)
    have hkl:k<lg1.length:=(by have:=HNL.out;omega);have y0:=(HB.out.cell (p:=⟨g1,k*2,none⟩) hg1).trans ((hc1 (k*2) (by rw[encT_length];omega)).trans (encT_at lg1 k hkl));have y4:=cell_of_row wr w6.heap.size 4 _ _ _ (row_below HR16.out HB.out);have hx:=HT.out k hlt;generalize (lg1.getD k (0,false)).1=x at*;have hki:(k:Int)<(nl:Int):=(by omega);have hk0:(0:Int)≤(k:Int):=(by omega);have hxd:¬(nd2:Int)≤(x:Int):=(by omega);have hxw:IntKind.i64.wrap (x:Int)=(x:Int):=IntWalk.i64_in _ (by omega);clear hc1 hkl;go_wp2_with fail
    go_quiet(fail)
    go_wp2
    go_roundw
    case rel=>exact⟨k+1,by omega,by go_num,below_drewN HB.out nq⟩
    case measure=>simp[intOf];omega
   ·obtain rfl:k=nl:=by omega
    rename World=>wA
    obtain⟨xs,hx,ho,-,hw⟩:=HEv8.out;have lx:xs.length=n1:=(by obtain⟨a,c,h,-⟩:=own_sl ho;cases h;rfl);obtain⟨hu,hn,hn2,hn3,hok,hcase⟩:=cont_res (fun g hg=>(HOk.out.g.b g hg).1) f1 reps s0 HG.out.1 HG.out.2.1;have lev:rX.ev.length=n1:=(by rw[←lx,←hx,List.length_map]);rw[lev]at hn hn2 hn3;rw[lx]at ho;obtain⟨a9,c9,e9,-,-,hm9,-,hp9⟩:=own_reads ho;cases e9;have HXS:=Lib.hid (And.intro hx (And.intro hw (And.intro lx lev)));have HEP:=Lib.hid hp9;have HCase:=Lib.hid (hcase HS0.out);have HEvOk:=Lib.hid hok;have HU:=Lib.hid (And.intro hu (And.intro hn (And.intro hn2 hn3)));have hn1r:¬((nr:Nat):Int)<(n1:Int):=(by have:=HNR.out.1;omega);have t6:=cell_of_row wA w4.heap.size 6 _ _ _ (row_below HR14.out HB.out);have hn19:n1≤65536:=(by omega);have hng9:ng≤64:=(by have:=HOk.out.g.n;have:=HGP.out.1;omega);clear hx ho hw lx hu hn hn2 hn3 hok hcase lev hp9;go_wp2_with fail;clear t6
    go_loopw[19,20,21] (fun i _ _ wB=>∃k:Nat,k≤n1∧i=.int .i64 k∧Below wA.heap.size wA wB) (fun i _ _ _=>n1 - (intOf i).toNat)
    case atStart=>exact⟨0,by omega,rfl,Below.refl _ _⟩
    case round=>
     obtain⟨k,hk,rfl,hb⟩:=hrel
     rename World=>wB
     have HB2:=Lib.hid (Bel.tr HB.out hb);have HBr:=Lib.hid hb;clear hb;have t6:=cell_of_row wB w4.heap.size 6 _ _ _ (row_below HR14.out HB2.out);by_cases hlt:k<n1
     ·obtain⟨gb,go,rfl,hgb,hgc⟩:=HEP.out (by omega)
      have hkx:k<xs.length:=(by have:=HXS.out.2.2.1;omega);obtain⟨x,hxx⟩:∃x,x=xs.getD k (askZ,undef):=⟨_,rfl⟩;obtain⟨-,e1,e2,e3⟩:=encE_at xs k (askZ,undef) hkx;rw[←hxx]at e1 e2 e3;have hxk:xs[k]?=some x:=(by rw[hxx,List.getD_eq_getElem?_getD,List.getElem?_eq_getElem hkx];rfl);have hxm:x∈xs:=List.mem_of_getElem? hxk;obtain⟨pa,pc,hv1,-⟩:=own_sl (HXS.out.2.1 x hxm).1;obtain⟨na2,hna⟩:∃n,n=x.1.args.length:=⟨_,rfl⟩;rw[hv1,←hna]at e2;have le:=encE_length xs;obtain⟨⟨gg,hgm,hg1,hg2⟩,r,hr,hrv⟩:=HEvOk.out k x.1 (by rw[←HXS.out.1,List.getElem?_map,hxk];rfl);obtain⟨rb,ro,us,hra,hrb,hrc⟩:=HRP.out (by have:=HU.out;omega);have hz:=(hrc k (by have:=HU.out;have:=HNR.out.1;omega)).1;rw[show reps.getD k ⟨0,[]⟩=r from by rw[List.getD_eq_getElem?_getD,hr];rfl,←hrv]at hz;subst hra;have HY:=Lib.hid (fun W (hW:Below w8.heap.size w8 W)=>(⟨(hW.cell (p:=⟨gb,go+k*4+1,none⟩) hgb).trans ((hgc (k*4+1) (by omega)).trans e1),(hW.cell (p:=⟨gb,go+k*4+2,none⟩) hgb).trans ((hgc (k*4+2) (by omega)).trans e2),(hW.cell (p:=⟨gb,go+k*4+3,none⟩) hgb).trans ((hgc (k*4+3) (by omega)).trans e3),((Bel.tr HB08.out hW).cell (p:=⟨rb,ro+k*2,none⟩) hrb).trans hz⟩:W.cell? ⟨gb,go+k*4+1,none⟩=some (.int .u32 x.1.num)∧W.cell? ⟨gb,go+k*4+2,none⟩=some (.slice pa na2 pc)∧W.cell? ⟨gb,go+k*4+3,none⟩=some (.int .u32 x.1.val)∧W.cell? ⟨rb,ro+k*2,none⟩=some (.int .u32 x.1.val)));obtain⟨nu,hnu⟩:∃nu,nu=x.1.num:=⟨_,rfl⟩;obtain⟨va9,hva9⟩:∃v,v=x.1.val:=⟨_,rfl⟩;rw[←hnu,←hva9]at HY
      have HGG:Hid (∃i,i<ng∧(gr.getD i (0,0)).1=nu∧(gr.getD i (0,0)).2=(na2:Int)):=Lib.hid (by
       obtain⟨i,hi⟩:=List.getElem?_of_mem hgm;have hi9:=(List.getElem?_eq_some_iff.1 hi).1;refine⟨i,by have:=HGP.out.1;omega,?_⟩;rw[show gr.getD i (0,0)=gg from by rw[List.getD_eq_getElem?_getD,hi];rfl]
       exact⟨by rw[hnu];exact hg1,by rw[hna];exact hg2⟩)
      have hki:(k:Int)<(n1:Int):=(by omega);have hk0:(0:Int)≤(k:Int):=(by omega);have hkr:(k:Int)<(nr:Int):=(by have:=HU.out;have:=HNR.out.1;omega);clear hgc hkx hxx e1 e2 e3 hxk hxm hv1 hna le hgm hg1 hg2 hr hrv hrc hz hnu hva9;go_wp2_with fail;clear t6
      go_loopw[20,21] (fun g j wC=>∃(q:Nat) (fl:Bool),q≤ng∧j=.int .i64 q∧g=.bool fl∧Below wB.heap.size wB wC∧(fl=true∨∀i,i<q→¬((gr.getD i (0,0)).1=nu∧(gr.getD i (0,0)).2=(na2:Int)))) (fun g j _=>ng - (intOf j).toNat)
      case atStart=>exact⟨0,false,by omega,rfl,rfl,Below.refl _ _,.inr (fun i hi=>absurd hi (Nat.not_lt_zero i))⟩
      case round=>
       obtain⟨q,fl,hq,rfl,rfl,hb,hf⟩:=hrel
       rename World=>wC
       have HB3:=Lib.hid (Bel.tr HB2.out hb);have HBs:=Lib.hid hb;have HFd:=Lib.hid hf;clear hb hf;obtain⟨y1,y2,y3,z0⟩:=HY.out wC HB3.out;have t6:=cell_of_row wC w4.heap.size 6 _ _ _ (row_below HR14.out HB3.out);have t9:=cell_of_row wC w.heap.size 6 _ _ _ (row_below HRw8.out HB3.out);by_cases hqt:q<ng
       ·obtain⟨bg,og,rfl,hbg,hcg⟩:=HGP.out.2.1 (by omega)
        have hqg:q<gr.length:=(by have:=HGP.out.1;omega);obtain⟨e0,e1⟩:=encG_at gr q hqg;have hle:=encG_len gr;have x0:=((Bel.tr HB08.out HB3.out).cell (p:=⟨bg,og+q*2,none⟩) hbg).trans ((hcg (q*2) (by omega)).trans e0);have x1:=((Bel.tr HB08.out HB3.out).cell (p:=⟨bg,og+q*2+1,none⟩) hbg).trans ((hcg (q*2+1) (by omega)).trans e1);obtain⟨gn,hgn⟩:∃x,x=(gr.getD q (0,0)).1:=⟨_,rfl⟩;obtain⟨ga,hga⟩:∃x,x=(gr.getD q (0,0)).2:=⟨_,rfl⟩;rw[←hgn]at x0;rw[←hga]at x1;have HGn:=Lib.hid (And.intro hgn hga);have hqi:(q:Int)<(ng:Int):=(by omega);have hq0:(0:Int)≤(q:Int):=(by omega);have wq:IntKind.i64.wrap ((q:Int)+1)=(q:Int)+1:=IntWalk.i64_in _ (by omega);clear hcg hqg e0 e1 hle hgn hga
        have hnext:fl=true∨(gn=nu∧ga=(na2:Int))∨∀i,i<q+1→¬((gr.getD i (0,0)).1=nu∧(gr.getD i (0,0)).2=(na2:Int)):=by
         rcases HFd.out with h|h
         ·exact .inl h
         ·by_cases hc:gn=nu∧ga=(na2:Int)
          ·exact .inr (.inl hc)
          ·refine .inr (.inr (fun i hi=>?_))
           by_cases hi2:i<q
           ·exact h i hi2
           ·obtain rfl:i=q:=by omega
            rw[←HGn.out.1,←HGn.out.2];exact hc
        have HNx:=Lib.hid hnext;clear hnext;by_cases c1:gn=nu
        ·by_cases c2:ga=(na2:Int)
         ·subst c1 c2
          go_wp2_with fail
          go_quiet(fail)
          go_wp2
          go_roundw
          case rel=>exact⟨q+1,true,by omega,by go_num,rfl,below_drewN HBs.out nq,.inl rfl⟩
          case measure=>simp[intOf];omega
         ·subst c1
          go_wp2_with fail
          go_quiet(fail)
          go_wp2
          go_roundw
          case rel=>exact⟨q+1,fl,by omega,by go_num,rfl,below_drewN HBs.out nq,HNx.out.elim .inl (fun h=>.inr (h.elim (fun h=>absurd h.2 c2) id))⟩
          case measure=>simp[intOf];omega
        ·have c1':¬(gn:Int)=(nu:Int):=by omega
         go_wp2_with fail
         go_quiet(fail)
         go_wp2
         go_roundw
         case rel=>exact⟨q+1,fl,by omega,by go_num,rfl,below_drewN HBs.out nq,HNx.out.elim .inl (fun h=>.inr (h.elim (fun h=>absurd h.1 c1) id))⟩
         case measure=>simp[intOf];omega
       ·obtain rfl:q=ng:=by omega
        have hfl:fl=true:=by
         rcases HFd.out with h|h
         ·exact h
         ·obtain⟨i,hi,hm⟩:=HGG.out
          exact(h i hi hm).elim
        subst hfl;have wk:IntKind.i64.wrap ((k:Int)+1)=(k:Int)+1:=IntWalk.i64_in _ (by omega);have HBu:=Lib.hid (Bel.tr HBr.out HBs.out);go_wp2_with fail
        go_quiet(fail)
        go_wp2
        go_roundw
        case rel=>exact⟨k+1,by omega,by go_num,below_drewN HBu.out nq⟩
        case measure=>simp[intOf];omega
     ·obtain rfl:k=n1:=by omega
      have hr14:=row_below HR14.out HB2.out;have hr16:=row_below HR16.out HB2.out;have t0:=cell_of_row wB w4.heap.size 0 _ _ _ hr14;have t4:=cell_of_row wB w4.heap.size 4 _ _ _ hr14;have t5:=cell_of_row wB w4.heap.size 5 _ _ _ hr14;have z0:=cell_of_row wB w6.heap.size 0 _ _ _ hr16;have z1:=cell_of_row wB w6.heap.size 1 _ _ _ hr16;have z2:=cell_of_row wB w6.heap.size 2 _ _ _ hr16;have z3:=cell_of_row wB w6.heap.size 3 _ _ _ hr16;have z4:=cell_of_row wB w6.heap.size 4 _ _ _ hr16;have z5:=cell_of_row wB w6.heap.size 5 _ _ _ hr16;have z6:=cell_of_row wB w6.heap.size 6 _ _ _ hr16;have hmB:=HRd8.out.below HB2.out
      have HFi:=Lib.hid (show Calls Tryz.prog 21 #[.pointer (some ⟨mb,0,none⟩),.agg #[.int .u8 s1.life,.int .u32 s1.pc,.int .u32 s1.sp,.slice o1 no o2,.slice d1 nd2 d2,.int .u32 s1.value,.int .u8 s1.fault]] wB (fun e w'=>e=.returned (.bool true)∧Below wB.heap.size wB w')from by
       have h:=fits_any (hmB.home.mat hmB.st.mod) (HSt8.out.below HB2.out) (by have:=hmB.ops;omega);rw[hmB.fit]at h
       exact h)
      have HMD:=Lib.hid (fun W (hW:Below wB.heap.size wB W)=>(hmB.home.mat hmB.st.mod).below hW);have q1:¬((f1:Nat):Int)<(rX.used:Int):=(by have:=HU.out;omega);have q2:¬((rX.used:Nat):Int)<(rX.nrep:Int):=(by have:=HU.out;omega);have q3:¬((nr:Nat):Int)<(rX.nrep:Int):=(by have:=HU.out;have:=HNR.out.1;omega);have q4:(rX.nrep:Int)=(k:Int):=by have:=HU.out;omega
      have q5:¬(64:Int)<(no:Int):=by
       have:=fits_ops (moOk hmB.st.mod.k) hmB.fit;have:=HN.out.1;omega
      obtain⟨en,hen⟩:∃x,x=rX.en:=⟨_,rfl⟩;obtain⟨us,hus⟩:∃x,x=rX.used:=⟨_,rfl⟩;obtain⟨nq,hnq⟩:∃x,x=rX.nrep:=⟨_,rfl⟩;have HCs:=HCase.out;rw[←hen,←hus]at HCs;rw[←hen]at t0;rw[←hus]at t4 q1 q2;rw[←hnq]at t5 q2 q3 q4;clear hen hus hnq hmB hr14 hr16;rcases HCs with h|⟨h,h2⟩|⟨h,h2⟩
      ·have h3:¬(us:Int)<1:=by omega
       go_wp2_with fail;refine(HFi.out).mono ?_;rintro e wD⟨rfl,hbD⟩;have HBD:=Lib.hid hbD;have hmD:=HMD.out wD hbD;clear hbD;go_wp2_with fail;refine(HDg.out wD hmD).mono ?_;rintro e wE⟨rfl,rfl⟩;go_wp2_with fail;go_ret;exact⟨rfl,HPsi.out _ (Bel.tr HB08.out (Bel.tr HB2.out HBD.out))⟩
      ·have h3:(us:Int)<1:=by omega
       have h4:¬(0:Int)<(f1:Int):=(by omega);go_wp2_with fail;refine(HFi.out).mono ?_;rintro e wD⟨rfl,hbD⟩;have HBD:=Lib.hid hbD;have hmD:=HMD.out wD hbD;clear hbD;go_wp2_with fail;refine(HDg.out wD hmD).mono ?_;rintro e wE⟨rfl,rfl⟩;go_wp2_with fail;go_ret;exact⟨rfl,HPsi.out _ (Bel.tr HB08.out (Bel.tr HB2.out HBD.out))⟩
      ·subst h2
       have h3:(us:Int)<1:=(by omega);by_cases h4:(0:Int)<(f1:Int)
       ·skip
        go_wp2_with fail;refine(HFi.out).mono ?_;rintro e wD⟨rfl,hbD⟩;have HBD:=Lib.hid hbD;have hmD:=HMD.out wD hbD;clear hbD;go_wp2_with fail;refine(HDg.out wD hmD).mono ?_;rintro e wE⟨rfl,rfl⟩;go_wp2_with fail;go_ret;exact⟨rfl,HPsi.out _ (Bel.tr HB08.out (Bel.tr HB2.out HBD.out))⟩
       ·skip
        go_wp2_with fail;refine(HFi.out).mono ?_;rintro e wD⟨rfl,hbD⟩;have HBD:=Lib.hid hbD;have hmD:=HMD.out wD hbD;clear hbD;go_wp2_with fail;refine(HDg.out wD hmD).mono ?_;rintro e wE⟨rfl,rfl⟩;go_wp2_with fail;go_ret;exact⟨rfl,HPsi.out _ (Bel.tr HB08.out (Bel.tr HB2.out HBD.out))⟩
 ·have hfit1:repsFit reps=false:=by cases h:repsFit reps;rfl;exact absurd h hfit
  have HGo1:=Lib.hid (go_reply (fuel:=(f1:Int)) HRd3.out (by omega) (by omega) HRS.out.at_ hfit1);refine HGo1.out.mono ?_;rintro e w4⟨rfl,hb4⟩;have HB4:=Lib.hid (Bel.tr (Bel.tr HBw0.out HRd3.out.home.b) hb4);clear hb4;go_wp2_with fail;go_ret;exact⟨rfl,HPsi.out _ (Bel.tr HB4.out (Bel.new _ _))⟩
end
end Go.Proofs.YtdffaepbkecoeaaGreat
