import Derived.Test.YtdffaepbkecoeaaGreatE4
import Derived.Test.YtdffaepbkecoeaaGreatE1
import Derived.Test.YtdffaepbkecoeaaGreatE3
import Derived.Maps.OwnSet
import Derived.Maps.OwnOps
import Derived.Great.BuildSlice
set_option maxRecDepth 100000
set_option maxHeartbeats 4000000
namespace Go.Proofs.YtdffaepbkecoeaaGreat
open Go.RowKit
set_option linter.unusedVariables false
set_option linter.unusedSimpArgs false
section
variable {w:World} {b:Nat} {K:MacK} {s:St} {vo:Value} {R:MacR} {M:MemK} {vt:Value} {logs:Bool} {tou:List (Nat×Bool)}
theorem Mach.nil (h:Mach w b K s vo R M vt logs tou):Mach w b K s vo R M vt logs (touL logs tou []):=by rw [touL_nil logs h.mem.tl];exact h
theorem nop_ok (h:Mach w b K s vo R M vt logs tou) (hp:s.pc<4294967295) (o a:Nat) :
 Calls Tryz.prog 71 #[.pointer (some ⟨b,0,none⟩),.agg #[.int .u8 o,.int .u32 a]] w (ActOk b K R M logs tou vo vt w ({ s with pc:=s.pc+1 },[])):=by
 refine (nop_act h.o.m hp o a).mono ?_
 rintro e w' ⟨rfl,hm,hf⟩
 refine ⟨rfl,vo,vt,(h.lift (s':={ s with pc:=s.pc+1 }) ⟨hm,own_fr h.o.o hf (fun g e e2=>h.o.m.not_own h.o.o (by decide) (by rw [← e2];exact e))⟩ rfl (hf.mono (G1:=fun k=>k=b) (fun i e=>.inl e) (fun i e=>.inl (.inl e)))).nil,frP hf rfl M vt⟩
theorem goto_ok (h:Mach w b K s vo R M vt logs tou) (o a:Nat) :
 Calls Tryz.prog 76 #[.pointer (some ⟨b,0,none⟩),.agg #[.int .u8 o,.int .u32 a]] w (ActOk b K R M logs tou vo vt w ({ s with pc:=a },[])):=by
 refine (goto_act h.o.m o a).mono ?_
 rintro e w' ⟨rfl,hm,hf⟩
 refine ⟨rfl,vo,vt,(h.lift (s':={ s with pc:=a }) ⟨hm,own_fr h.o.o hf (fun g e e2=>h.o.m.not_own h.o.o (by decide) (by rw [← e2];exact e))⟩ rfl (hf.mono (G1:=fun k=>k=b) (fun i e=>.inl e) (fun i e=>.inl (.inl e)))).nil,frP hf rfl M vt⟩
theorem constant_ok (h:Mach w b K s vo R M vt logs tou) (hn:s.ops.length≤65536) (hp:s.pc<4294967295) (o a:Nat) :
 Calls Tryz.prog 78 #[.pointer (some ⟨b,0,none⟩),.agg #[.int .u8 o,.int .u32 a]] w (ActOk b K R M logs tou vo vt w ({ s with ops:=s.ops++[a],pc:=s.pc+1 },[])):=by
 refine (constant_act h.o hn hp o a).mono ?_
 rintro e w' ⟨rfl,v',hm,hf⟩
 exact ⟨rfl,v',vt,(h.lift (s':={ s with ops:=s.ops++[a],pc:=s.pc+1 }) hm rfl hf).nil,frO hf M vt⟩
theorem local_ok (h:Mach w b K s vo R M vt logs tou) (hn:s.ops.length≤65536) (hp:s.pc<4294967295) (o a:Nat) :
 Calls Tryz.prog 79 #[.pointer (some ⟨b,0,none⟩),.agg #[.int .u8 o,.int .u32 a]] w (ActOk b K R M logs tou vo vt w ({ s with ops:=s.ops++[(s.sp+a) % 4294967296],pc:=s.pc+1 },[])):=by
 refine (local_act h.o hn hp o a).mono ?_
 rintro e w' ⟨rfl,v',hm,hf⟩
 exact ⟨rfl,v',vt,(h.lift (s':={ s with ops:=s.ops++[(s.sp+a) % 4294967296],pc:=s.pc+1 }) hm rfl hf).nil,frO hf M vt⟩
theorem drop_ok {l:List Nat} {x:Nat} (h:Mach w b K s vo R M vt logs tou) (ho:s.ops=l++[x]) (hn:l.length≤65536) (hp:s.pc<4294967295) (o a:Nat) :
 Calls Tryz.prog 80 #[.pointer (some ⟨b,0,none⟩),.agg #[.int .u8 o,.int .u32 a]] w (ActOk b K R M logs tou vo vt w ({ s with ops:=l,pc:=s.pc+1 },[])):=by
 obtain ⟨life,pc,sp,ops,data,value,fault⟩:=s
 simp only at ho
 subst ho
 refine (drop_act h.o hn hp o a).mono ?_
 rintro e w' ⟨rfl,v',hm,hf,hv⟩
 exact ⟨rfl,v',vt,(h.lift (s':=⟨life,pc+1,sp,l,data,value,fault⟩) hm rfl (hf.mono (G1:=fun k=>k=b) (fun i e=>.inl e) (fun i e=>.inl (.inl e)))).nil,frP hf hv M vt⟩
theorem dup_ok {l:List Nat} {x:Nat} (h:Mach w b K s vo R M vt logs tou) (ho:s.ops=l++[x]) (hn:l.length+1≤65536) (hp:s.pc<4294967295) (o a:Nat) :
 Calls Tryz.prog 81 #[.pointer (some ⟨b,0,none⟩),.agg #[.int .u8 o,.int .u32 a]] w (ActOk b K R M logs tou vo vt w ({ s with ops:=l++[x]++[x],pc:=s.pc+1 },[])):=by
 obtain ⟨life,pc,sp,ops,data,value,fault⟩:=s
 simp only at ho
 subst ho
 refine (dup_act h.o hn hp o a).mono ?_
 rintro e w' ⟨rfl,v',hm,hf⟩
 exact ⟨rfl,v',vt,(h.lift (s':=⟨life,pc+1,sp,l++[x]++[x],data,value,fault⟩) hm rfl hf).nil,frO hf M vt⟩
theorem copy_ok {l:List Nat} {x y:Nat} (h:Mach w b K s vo R M vt logs tou) (ho:s.ops=l++[x]++[y]) (hx:x<4294967296) (hy:y<4294967296) (hn:l.length≤65535) (hp:s.pc<4294967295) (o a:Nat) (ha:a≤4096) :
 Calls Tryz.prog 89 #[.pointer (some ⟨b,0,none⟩),.agg #[.int .u8 o,.int .u32 a]] w (ActOk b K R M logs tou vo vt w ({ s with ops:=l,data:=writeN s.data x (bytesN s.data y a),pc:=s.pc+1 },touN M.N y a false++touN M.N x a true)):=by
 have hmx:Tryz.prog.follows .mixedOrders=true:=by kernel_rfl
 have HP:=Lib.hid ((h.below (Bel.new w (.cells #[.int .u8 o,.int .u32 a] 106))).pop ho (by simp;omega))
 have HB1:=Lib.hid (Bel.new w (.cells #[.int .u8 o,.int .u32 a] 106))
 have HH1:=Lib.hid (heap_alloc_new w (.cells #[.int .u8 o,.int .u32 a] 106 (0,0)))
 have hlt:=h.lt
 have HML:=Lib.hid h.mem.flt
 have hw:IntKind.u32.wrap ((s.pc:Int)+1)=(s.pc:Int)+1:=by rw [IntKind.wrap_u32];omega
 clear h ho
 go_enter Tryz.func89,Tryz.ntmps89
 go_wp2_with fail
 refine HP.out.mono ?_
 rintro e w1 ⟨rfl,vo1,m1,f1,fb,-⟩
 have c65:=m1.c65
 have hh1:=fb.row HH1.out (by omega)
 have d1:=cell_of_row w1 w.heap.size 1 _ _ _ hh1
 have HH2:=Lib.hid (hh1:w1.drew.heap[w.heap.size]?=_)
 have HP2:=Lib.hid ((m1.below (Below.refl _ _).drew).pop (l:=l) rfl (by omega))
 have HF1:=Lib.hid f1
 clear m1 f1 fb hh1
 go_wp2_with fail
 first|(go_region_held3 (fun W=>W.cell? ⟨b,65,none⟩=some (.pointer (some ⟨M.p,0,none⟩))∧W.cell? ⟨w.heap.size,1,none⟩=some (.int .u32 a))
  (first|assumption|exact ⟨by assumption,by assumption⟩)
  (first
   | (go_at_call 119;refine HP2.out.mono ?_;rintro e w2 ⟨rfl,vo2,m2,f2,fb2,-⟩;have d65:=m2.c65;have dd:=cell_of_row w2 w.heap.size 1 _ _ _ (fb2.row HH2.out (by omega));have HL:=Lib.hid (copy_mem m2.mem hx hy ha);have HM2:=Lib.hid m2;have HF2:=Lib.hid f2;have HD2:=Lib.hid (fb2.row HH2.out (by omega));clear m2 f2 fb2)
   | (go_at_call 128; refine HL.out.mono ?_; rintro e w4 ⟨rfl, vt3, m3, f3⟩; have hm3 := HM2.out.liftM m3 f3; have e65 := hm3.c65; have ee := cell_of_row w4 w.heap.size 1 _ _ _ (f3.row HD2.out (fun hk => Nat.lt_irrefl _ (HML.out _ hk))); have HM4 := Lib.hid hm3; have HF3 := Lib.hid (frM f3 b vo2); clear hm3 m3 f3))) | fail "held"
 have c67:=HM4.out.o.m.cells.c67
 have cf:=HM4.out.o.m.cells.fz
 simp only [macV] at c67
 go_wp2_with fail
 go_end0
 have:=HM4.out.setPc (s.pc+1)
 refine ⟨rfl,vo2,vt3,by simpa using this,?_⟩
 exact (((((Fr.of HB1.out _).trans HF1.out).drew).trans HF2.out).trans HF3.out).trans (frB w4 b vo2 M vt3 67 _)
theorem halt_flt (h:Mach w b K s vo R M vt logs tou) (o a:Nat) :
 Calls Tryz.prog 72 #[.pointer (some ⟨b,0,none⟩),.agg #[.int .u8 o,.int .u32 a]] w (ActFlt b K s R M logs tou vo vt w 1 []):=by
 have H:=Lib.hid ((h.below (Bel.new w (.cells #[.int .u8 o,.int .u32 a] 106))).nil)
 clear h
 go_enter Tryz.func72,Tryz.ntmps72
 go_wp2_with fail
 exact ⟨rfl,rfl,vo,vt,H.out.o.m,H.out.o.o,H.out.mem,Fr.of (Bel.new _ _) _⟩
theorem enter_flt (h:Mach w b K s vo R M vt logs tou) (o a:Nat) (ha:a<4294967296) (hs:s.sp<4294967296) (hf:K.floor<4294967296) (hc:s.sp<K.floor+a) :
 Calls Tryz.prog 73 #[.pointer (some ⟨b,0,none⟩),.agg #[.int .u8 o,.int .u32 a]] w (ActFlt b K s R M logs tou vo vt w 6 []):=by
 have H:=Lib.hid (fun W (hW:Below w.heap.size w W)=>(h.below hW).nil)
 have c68:=h.o.m.cells.c68
 have c63:=h.o.m.cells.c63
 have cf:=h.o.m.cells.fz
 have hlt:=h.lt
 simp only [macV] at c68
 have w1:IntKind.i64.wrap (s.sp:Int)=(s.sp:Int):=IntWalk.i64_in _ (by omega)
 have w2:IntKind.i64.wrap (a:Int)=(a:Int):=IntWalk.i64_in _ (by omega)
 have w3:IntKind.i64.wrap (K.floor:Int)=(K.floor:Int):=IntWalk.i64_in _ (by omega)
 have w4:IntKind.i64.wrap ((s.sp:Int) - (a:Int))=(s.sp:Int) - (a:Int):=IntWalk.i64_in _ (by omega)
 have hlss:(s.sp:Int) - (a:Int)<(K.floor:Int):=by omega
 clear h
 go_enter Tryz.func73,Tryz.ntmps73
 go_wp2_with fail
 go_quiet (fail)
 have hbb:Below w.heap.size w ((w.alloc (.cells #[.int .u8 o,.int .u32 a] 106)).drewN nq):=below_drewN (Bel.new w _) nq
 obtain ⟨W,hW⟩:∃ W,W=(w.alloc (.cells #[.int .u8 o,.int .u32 a] 106)).drewN nq:=⟨_,rfl⟩
 rw [← hW] at hbb ⊢
 have HQ:=Lib.hid hbb
 clear hW hbb
 go_wp2_with fail
 exact ⟨rfl,rfl,vo,vt,(H.out _ HQ.out).o.m,(H.out _ HQ.out).o.o,(H.out _ HQ.out).mem,Fr.of HQ.out _⟩
theorem enter_ok (h:Mach w b K s vo R M vt logs tou) (hp:s.pc<4294967295) (o a:Nat) (ha:a<4294967296) (hs:s.sp<4294967296) (hf:K.floor<4294967296) (hc:K.floor+a≤s.sp) :
 Calls Tryz.prog 73 #[.pointer (some ⟨b,0,none⟩),.agg #[.int .u8 o,.int .u32 a]] w (ActOk b K R M logs tou vo vt w ({ s with sp:=s.sp - a,pc:=s.pc+1 },[])):=by
 have hmx:Tryz.prog.follows .mixedOrders=true:=by kernel_rfl
 obtain ⟨W1,hW1⟩:∃ W1,W1=w.alloc (.cells #[.int .u8 o,.int .u32 a] 106):=⟨_,rfl⟩
 have hb1:Below w.heap.size w W1:=by rw [hW1];exact Bel.new _ _
 have hh1:W1.heap[w.heap.size]?=some (.cells #[.int .u8 o,.int .u32 a] 106 (0,0)):=by rw [hW1];exact heap_alloc_new _ _
 have d1:=cell_of_row W1 w.heap.size 1 _ _ _ hh1
 have H:=Lib.hid (fun W (hW:Below w.heap.size w W)=>h.below hW)
 have c68:=(h.below hb1).o.m.cells.c68
 have c63:=(h.below hb1).o.m.cells.c63
 have cf:=(h.below hb1).o.m.cells.fz
 have hlt:=h.lt
 simp only [macV] at c68
 have w1:IntKind.i64.wrap (s.sp:Int)=(s.sp:Int):=IntWalk.i64_in _ (by omega)
 have w2:IntKind.i64.wrap (a:Int)=(a:Int):=IntWalk.i64_in _ (by omega)
 have w3:IntKind.i64.wrap (K.floor:Int)=(K.floor:Int):=IntWalk.i64_in _ (by omega)
 have w4:IntKind.i64.wrap ((s.sp:Int) - (a:Int))=(s.sp:Int) - (a:Int):=IntWalk.i64_in _ (by omega)
 have w5:IntKind.u32.wrap ((s.sp:Int) - (a:Int))=((s.sp - a:Nat):Int):=by rw [IntKind.wrap_u32];omega
 have hlss:¬ (s.sp:Int) - (a:Int)<(K.floor:Int):=by omega
 have hw:IntKind.u32.wrap ((s.pc:Int)+1)=(s.pc:Int)+1:=by rw [IntKind.wrap_u32];omega
 have HB1:=Lib.hid hb1
 generalize s.sp - a=q at *
 have HH1:=Lib.hid hh1
 clear h hb1 hh1
 go_enter Tryz.func73,Tryz.ntmps73
 go_wp2_with fail
 rw [← hW1]
 clear hW1
 go_quiet (fail)
 have hbb:Below w.heap.size w (W1.drewN nq):=below_drewN HB1.out nq
 have hh2:(W1.drewN nq).heap[w.heap.size]?=some (.cells #[.int .u8 o,.int .u32 a] 106 (0,0)):=HH1.out
 clear c68 d1 cf c63
 obtain ⟨W2,hW2⟩:∃ W2,W2=W1.drewN nq:=⟨_,rfl⟩
 rw [← hW2] at hbb hh2 ⊢
 have c68:=(H.out _ hbb).o.m.cells.c68
 have c67:=(H.out _ hbb).o.m.cells.c67
 have cf:=(H.out _ hbb).o.m.cells.fz
 simp only [macV] at c68 c67
 have d1:=cell_of_row W2 w.heap.size 1 _ _ _ hh2
 have HQ:=Lib.hid hbb
 clear hW2 hbb hh2 HH1
 go_wp2_with fail
 refine wp_region_still_tail 9 hmx (by kernel_rfl) ?_
 simp only [List.take_succ_cons,List.take_zero,List.drop_succ_cons,List.drop_zero]
 repeat still_step
 refine wpStill_nil ?_
 change wpList _ _ _ _ _ W2.drew
 go_wp2_with fail
 go_end0
 have:=(((H.out _ HQ.out).setSp q).setPc (s.pc+1)).below (Below.refl _ _).drew
 refine ⟨rfl,vo,vt,(by simpa using this:Mach _ _ _ _ _ _ _ _ _ _).nil,?_⟩
 exact (((Fr.of HQ.out _).trans (frB W2 b vo M vt 68 _)).trans (frB _ b vo M vt 67 _)).drew
end
section
variable {w:World} {b:Nat} {K:MacK} {s:St} {vo:Value} {R:MacR} {M:MemK} {vt:Value} {logs:Bool} {tou:List (Nat×Bool)}
theorem unary_ok {l:List Nat} {x:Nat} (h:Mach w b K s vo R M vt logs tou) (ho:s.ops=l++[x]) (hn:l.length≤65535) (hp:s.pc<4294967295) (o a:Nat) :
 Calls Tryz.prog 90 #[.pointer (some ⟨b,0,none⟩),.agg #[.int .u8 o,.int .u32 a]] w (ActOk b K R M logs tou vo vt w ({ s with ops:=l++[unW o x],pc:=s.pc+1 },[])):=by
 have hmx:Tryz.prog.follows .mixedOrders=true:=by kernel_rfl
 obtain ⟨W1,hW1⟩:∃ W1,W1=w.alloc (.cells #[.int .u8 o,.int .u32 a] 106):=⟨_,rfl⟩
 have hb1:Below w.heap.size w W1:=by rw [hW1];exact Bel.new _ _
 have hh1:W1.heap[w.heap.size]?=some (.cells #[.int .u8 o,.int .u32 a] 106 (0,0)):=by rw [hW1];exact heap_alloc_new _ _
 have d0:=cell_of_row W1 w.heap.size 0 _ _ _ hh1
 have HP:=Lib.hid (((h.below hb1).below (Below.refl _ _).drew).pop ho (by omega))
 have HB1:=Lib.hid hb1
 have HH1:=Lib.hid hh1
 have hlt:=h.lt
 have hw:IntKind.u32.wrap ((s.pc:Int)+1)=(s.pc:Int)+1:=by rw [IntKind.wrap_u32];omega
 have HN:=Lib.hid (fun W=>unary_any o x W)
 generalize unW o x=y at *
 generalize unE o=z at *
 clear h hb1 hh1 ho
 go_enter Tryz.func90,Tryz.ntmps90
 go_wp2_with fail
 rw [← hW1]
 clear hW1
 first|(go_region_held3 (fun W=>W.cell? ⟨w.heap.size,0,none⟩=some (.int .u8 o))
  (first|assumption)
  (first
   | (go_at_call 119;refine HP.out.mono ?_;rintro e w2 ⟨rfl,vo2,m2,f2,fb,-⟩;have dd:=cell_of_row w2 w.heap.size 0 _ _ _ (fb.row (HH1.out:W1.drew.heap[w.heap.size]?=_) (by omega));have HU:=Lib.hid (m2.push (show l.length≤65536 by omega) y);have HF2:=Lib.hid f2;clear m2 f2 fb)
   | (go_at_call 129; refine (HN.out _).mono ?_; rintro e w3 ⟨rfl, rfl⟩))) | fail "held"
 go_wp2_with fail
 refine HU.out.mono ?_
 rintro e w4 ⟨rfl,vo4,m4,f4⟩
 have HM4:=Lib.hid m4
 have HF4:=Lib.hid f4
 clear m4 f4
 have c67:=HM4.out.o.m.cells.c67
 have cf:=HM4.out.o.m.cells.fz
 simp only [macV] at c67
 go_wp2_with fail
 go_end0
 have:=HM4.out.setPc (s.pc+1)
 refine ⟨rfl,vo4,vt,(by simpa using this:Mach _ _ _ _ _ _ _ _ _ _).nil,?_⟩
 exact (((Fr.of HB1.out _).drew.trans HF2.out).trans HF4.out).trans (frB w4 b vo4 M vt 67 _)
theorem branch_ok {l:List Nat} {x y:Nat} (h:Mach w b K s vo R M vt logs tou) (ho:s.ops=l++[x]++[y]) (hn:l.length≤65535) (hp:s.pc<4294967295) (o a:Nat) (h13:13≤o) (h28:o≤28) :
 Calls Tryz.prog 91 #[.pointer (some ⟨b,0,none⟩),.agg #[.int .u8 o,.int .u32 a]] w (ActOk b K R M logs tou vo vt w ({ s with ops:=l,pc:=if hoB o x y then a else s.pc+1 },[])):=by
 have HP:=Lib.hid ((h.below (Bel.new w (.cells #[.int .u8 o,.int .u32 a] 106))).pop ho (by simp;omega))
 have HB1:=Lib.hid (Bel.new w (.cells #[.int .u8 o,.int .u32 a] 106))
 have HH1:=Lib.hid (heap_alloc_new w (.cells #[.int .u8 o,.int .u32 a] 106 (0,0)))
 have hlt:=h.lt
 have hw:IntKind.u32.wrap ((s.pc:Int)+1)=(s.pc:Int)+1:=by rw [IntKind.wrap_u32];omega
 have HN:=Lib.hid (fun W=>holds_any o x y h13 h28 W)
 obtain ⟨q,hq⟩:∃ q,q=hoB o x y:=⟨_,rfl⟩
 rw [← hq] at HN ⊢
 obtain ⟨pn,hpn⟩:∃ pn,pn=if q then a else s.pc+1:=⟨_,rfl⟩
 rw [← hpn]
 have HQ:=Lib.hid hpn
 clear h ho hq h13 h28 hpn
 go_enter Tryz.func91,Tryz.ntmps91
 go_wp2_with fail
 refine HP.out.mono ?_
 rintro e w1 ⟨rfl,vo1,m1,f1,fb,-⟩
 have HH2:=Lib.hid (fb.row HH1.out (by omega))
 have HP2:=Lib.hid (m1.pop (l:=l) rfl (by omega))
 have HF1:=Lib.hid f1
 clear m1 f1 fb
 go_wp2_with fail
 refine HP2.out.mono ?_
 rintro e w2 ⟨rfl,vo2,m2,f2,fb2,-⟩
 have hh2:=fb2.row HH2.out (by omega)
 have d0:=cell_of_row w2 w.heap.size 0 _ _ _ hh2
 have d1:=cell_of_row w2 w.heap.size 1 _ _ _ hh2
 have c67:=m2.o.m.cells.c67
 have cf:=m2.o.m.cells.fz
 simp only [macV] at c67
 have HM2:=Lib.hid m2
 have HF2:=Lib.hid f2
 clear m2 f2 fb2 hh2
 go_wp2_with fail
 refine (HN.out _).mono ?_
 rintro e w3 ⟨rfl,rfl⟩
 cases q
 ·go_wp2_with fail
  go_end0
  have e9:pn=s.pc+1:=HQ.out
  rw [e9]
  have:=HM2.out.setPc (s.pc+1)
  refine ⟨rfl,vo2,vt,(by simpa using this:Mach _ _ _ _ _ _ _ _ _ _).nil,?_⟩
  exact (((Fr.of HB1.out _).trans HF1.out).trans HF2.out).trans (frB w2 b vo2 M vt 67 _)
 ·go_wp2_with fail
  go_end0
  have e9:pn=a:=HQ.out
  rw [e9]
  have:=(HM2.out.setPc (s.pc+1)).setPc a
  refine ⟨rfl,vo2,vt,(by simpa using this:Mach _ _ _ _ _ _ _ _ _ _).nil,?_⟩
  exact ((((Fr.of HB1.out _).trans HF1.out).trans HF2.out).trans (frB w2 b vo2 M vt 67 _)).trans (frB _ b vo2 M vt 67 _)
end
theorem own_take {w:World} {B:Nat} {e:TypeId} {sz n c:Nat} {a:Option Addr} {xs:List Value} (h:w.ownsRow B e sz (.slice a n c) n xs) {k:Nat} (hk:k≤n) (h0:0<k ∨ a≠none ∨ c=0):w.ownsRow B e sz (.slice a k c) k (xs.take (k * sz)):=by
 obtain ⟨hl,h2⟩:=h
 refine ⟨by rw [List.length_take,hl];exact Nat.min_eq_left (Nat.mul_le_mul_right _ hk),?_⟩
 rcases h2 with ⟨h1,h2⟩|⟨g,cap,cur,h1,hb,hg,hnc,hm,hcs,ht⟩
 ·cases h1
  have:k=0:=by omega
  subst this
  exact .inl ⟨rfl,rfl⟩
 ·cases h1
  refine .inr ⟨g,c,cur,rfl,hb,hg,by omega,hm,hcs,?_⟩
  rw [← ht,List.take_take]
  congr 1
  exact (Nat.min_eq_left (Nat.mul_le_mul_right _ hk)).symm
section
variable {w:World} {b:Nat} {K:MacK} {s:St} {vo:Value} {R:MacR} {M:MemK} {vt:Value} {logs:Bool} {tou:List (Nat×Bool)}
theorem Mach.top2 {l:List Nat} {x y:Nat} (h:Mach w b K s vo R M vt logs tou) (ho:s.ops=l++[x]++[y]):∃ g cap,vo=.slice (some ⟨g,0,none⟩) (l.length+2) cap∧l.length+2≤cap∧w.cell? ⟨g,l.length,none⟩=some (.int .u32 x)∧w.cell? ⟨g,l.length+1,none⟩=some (.int .u32 y) ∧
 w.ownsRow 0 25 1 (.slice (some ⟨g,0,none⟩) l.length cap) l.length (encN .u32 l):=by
 have hr:w.ownsRow 0 25 1 vo s.ops.length (encN .u32 s.ops):=h.o.o
 rw [ho,show (l++[x]++[y]).length=l.length+2 from by simp] at hr
 obtain ⟨g,cap,hv,hgl,hcap,-,hc⟩:=own_form hr (by omega)
 refine ⟨g,cap,hv,by omega,?_,?_,?_⟩
 ·rw [hc l.length (by rw [encN_length];simp),encN_at .u32 _ l.length (by simp)];simp
 ·rw [hc (l.length+1) (by rw [encN_length];simp),encN_at .u32 _ (l.length+1) (by simp)];simp
 ·rw [hv] at hr
  have:=own_take hr (k:=l.length) (by omega) (.inr (.inl (by simp)))
  rw [Nat.mul_one,List.append_assoc,encN_append,List.take_append_of_le_length (by rw [encN_length];omega),List.take_of_length_le (by rw [encN_length];omega)] at this
  exact this
theorem binary_flt {l:List Nat} {x y:Nat} (h:Mach w b K s vo R M vt logs tou) (ho:s.ops=l++[x]++[y]) (hy:y<4294967296) (hn:l.length≤65535) (o a:Nat) (hr:(biR o x y).2≠0) :
 Calls Tryz.prog 92 #[.pointer (some ⟨b,0,none⟩),.agg #[.int .u8 o,.int .u32 a]] w (ActFlt b K s R M logs tou vo vt w 2 []):=by
 have hmx:Tryz.prog.follows .mixedOrders=true:=by kernel_rfl
 obtain ⟨W1,hW1⟩:∃ W1,W1=w.alloc (.cells #[.int .u8 o,.int .u32 a] 106):=⟨_,rfl⟩
 have hb1:Below w.heap.size w W1:=by rw [hW1];exact Bel.new _ _
 have hh1:W1.heap[w.heap.size]?=some (.cells #[.int .u8 o,.int .u32 a] 106 (0,0)):=by rw [hW1];exact heap_alloc_new _ _
 have d0:=cell_of_row W1 w.heap.size 0 _ _ _ hh1
 have H:=Lib.hid (fun W (hW:Below w.heap.size w W)=>(h.below hW).nil)
 obtain ⟨g,cap,hv,hcap,k0,k1,-⟩:=(h.below hb1).top2 ho
 have c69:=(h.below hb1).o.m.cells.c69
 have hv0:=hv
 have c69w:=h.o.m.cells.c69
 have hlt:=h.lt
 simp only [macV] at c69 c69w
 rw [hv] at c69 c69w
 obtain ⟨n,hnn⟩:∃ n,n=l.length:=⟨_,rfl⟩
 rw [← hnn] at c69 c69w k0 k1 hn hcap
 have HB1:=Lib.hid hb1
 have hbl:b<W1.heap.size:=Nat.lt_of_lt_of_le hlt hb1.size
 have hgl:g<W1.heap.size:=World.block_lt_of_cell? _ _ k0
 have hwl:w.heap.size<W1.heap.size:=(Array.getElem?_eq_some_iff.1 hh1).1
 have e1:((n:Int)+2) - 2=(n:Int):=by omega
 have e2:((n:Int)+2) - 1=(n:Int)+1:=by omega
 have w1:IntKind.i64.wrap (n:Int)=(n:Int):=IntWalk.i64_in _ (by omega)
 have w2:IntKind.i64.wrap ((n:Int)+1)=(n:Int)+1:=IntWalk.i64_in _ (by omega)
 have hlt1:(n:Int)<(n:Int)+2:=by omega
 have hlt2:(n:Int)+1<(n:Int)+2:=by omega
 have hn1:(0:Int)≤(n:Int):=by omega
 have hn2:(0:Int)≤(n:Int)+1:=by omega
 have hlt3:n<n+2:=by omega
 have hlt4:n+1<n+2:=by omega
 have htn:((n:Int)+1).toNat=n+1:=by omega
 have HN:=Lib.hid (fun W=>binary_any o x y hy W)
 have hre:((biR o x y).2:Int)≠0:=by omega
 generalize (biR o x y).1=q at *
 generalize (biR o x y).2=z at *
 clear h ho hr hb1 hh1 hv hv0 hnn hy hcap
 go_enter Tryz.func92,Tryz.ntmps92
 go_wp2_with fail
 rw [← hW1]
 clear hW1
 first|(go_region_held3 (fun W=>W.cell? ⟨b,69,none⟩=some (.slice (some ⟨g,0,none⟩) (n+2) cap)∧W.cell? ⟨g,n,none⟩=some (.int .u32 x)∧W.cell? ⟨g,n+1,none⟩=some (.int .u32 y)∧W.cell? ⟨w.heap.size,0,none⟩=some (.int .u8 o))
  (first|assumption|exact ⟨by assumption,by assumption,by assumption,by assumption⟩)
  ((go_at_call 131; refine (HN.out _).mono ?_; rintro e w3 ⟨rfl, hb3⟩; have x1 := (hb3.cell (p := ⟨b, 69, none⟩) hbl).trans c69; have x2 := (hb3.cell (p := ⟨g, n, none⟩) hgl).trans k0; have x3 := (hb3.cell (p := ⟨g, n + 1, none⟩) hgl).trans k1; have x4 := (hb3.cell (p := ⟨w.heap.size, 0, none⟩) hwl).trans d0; have HB3 := Lib.hid (Bel.tr (HB1.out.drew) hb3); clear hb3))) | fail "held"
 go_wp2_with fail
 exact ⟨rfl,rfl,vo,vt,(H.out _ HB3.out).o.m,(H.out _ HB3.out).o.o,(H.out _ HB3.out).mem,Fr.of HB3.out _⟩
theorem binary_ok {l:List Nat} {x y:Nat} (h:Mach w b K s vo R M vt logs tou) (ho:s.ops=l++[x]++[y]) (hy:y<4294967296) (hn:l.length≤65535) (hp:s.pc<4294967295) (o a:Nat) (hr:(biR o x y).2=0) :
 Calls Tryz.prog 92 #[.pointer (some ⟨b,0,none⟩),.agg #[.int .u8 o,.int .u32 a]] w (ActOk b K R M logs tou vo vt w ({ s with ops:=l++[(biR o x y).1],pc:=s.pc+1 },[])):=by
 have hmx:Tryz.prog.follows .mixedOrders=true:=by kernel_rfl
 obtain ⟨W1,hW1⟩:∃ W1,W1=w.alloc (.cells #[.int .u8 o,.int .u32 a] 106):=⟨_,rfl⟩
 have hb1:Below w.heap.size w W1:=by rw [hW1];exact Bel.new _ _
 have hh1:W1.heap[w.heap.size]?=some (.cells #[.int .u8 o,.int .u32 a] 106 (0,0)):=by rw [hW1];exact heap_alloc_new _ _
 have d0:=cell_of_row W1 w.heap.size 0 _ _ _ hh1
 have H:=Lib.hid (fun W (hW:Below w.heap.size w W)=>h.below hW)
 obtain ⟨g,cap,hv,hcap,k0,k1,hrow⟩:=(h.below hb1).top2 ho
 have c69:=(h.below hb1).o.m.cells.c69
 have hv0:=hv
 have c69w:=h.o.m.cells.c69
 have hlt:=h.lt
 simp only [macV] at c69 c69w
 rw [hv] at c69 c69w
 obtain ⟨n,hnn⟩:∃ n,n=l.length:=⟨_,rfl⟩
 rw [← hnn] at c69 c69w k0 k1 hn hcap
 have HB1:=Lib.hid hb1
 have hnc:(n:Int)≤(cap:Int):=by omega
 have hnc2:n≤cap:=by omega
 have hbl:b<W1.heap.size:=Nat.lt_of_lt_of_le hlt hb1.size
 have hgl:g<W1.heap.size:=World.block_lt_of_cell? _ _ k0
 have hwl:w.heap.size<W1.heap.size:=(Array.getElem?_eq_some_iff.1 hh1).1
 have e1:((n:Int)+2) - 2=(n:Int):=by omega
 have e2:((n:Int)+2) - 1=(n:Int)+1:=by omega
 have w1:IntKind.i64.wrap (n:Int)=(n:Int):=IntWalk.i64_in _ (by omega)
 have w2:IntKind.i64.wrap ((n:Int)+1)=(n:Int)+1:=IntWalk.i64_in _ (by omega)
 have hlt1:(n:Int)<(n:Int)+2:=by omega
 have hlt2:(n:Int)+1<(n:Int)+2:=by omega
 have hn1:(0:Int)≤(n:Int):=by omega
 have hn2:(0:Int)≤(n:Int)+1:=by omega
 have hlt3:n<n+2:=by omega
 have hlt4:n+1<n+2:=by omega
 have htn:((n:Int)+1).toNat=n+1:=by omega
 have HN:=Lib.hid (fun W=>binary_any o x y hy W)
 rw [hr] at HN
 have hw:IntKind.u32.wrap ((s.pc:Int)+1)=(s.pc:Int)+1:=by rw [IntKind.wrap_u32];omega
 obtain ⟨i25,hi25,hi250,hi251,hi252⟩:=info_parts inf25
 have hbs:=bs23_1
 have HRow:=Lib.hid hrow
 have HV:=Lib.hid hv
 have HNN:=Lib.hid hnn
 generalize (biR o x y).1=q at *
 clear h ho hr hb1 hh1 hv hv0 hnn hy hcap hrow
 go_enter Tryz.func92,Tryz.ntmps92
 go_wp2_with fail
 rw [← hW1]
 clear hW1
 first|(go_region_held3 (fun W=>W.cell? ⟨b,69,none⟩=some (.slice (some ⟨g,0,none⟩) (n+2) cap)∧W.cell? ⟨g,n,none⟩=some (.int .u32 x)∧W.cell? ⟨g,n+1,none⟩=some (.int .u32 y)∧W.cell? ⟨w.heap.size,0,none⟩=some (.int .u8 o))
  (first|assumption|exact ⟨by assumption,by assumption,by assumption,by assumption⟩)
  ((go_at_call 131; refine (HN.out _).mono ?_; rintro e w3 ⟨rfl, hb3⟩; have x1 := (hb3.cell (p := ⟨b, 69, none⟩) hbl).trans c69; have x2 := (hb3.cell (p := ⟨g, n, none⟩) hgl).trans k0; have x3 := (hb3.cell (p := ⟨g, n + 1, none⟩) hgl).trans k1; have x4 := (hb3.cell (p := ⟨w.heap.size, 0, none⟩) hwl).trans d0; have HB3 := Lib.hid (Bel.tr (HB1.out.drew) hb3); have HW13 := Lib.hid (Bel.tr (Below.refl W1.heap.size W1).drew hb3); clear hb3))) | fail "held"
 have HH3:=H.out _ HB3.out
 obtain ⟨cs,hcs,hmr⟩:=HH3.o.m
 have hb13:Below W1.heap.size W1 w3:=HW13.out
 have HR3:=Lib.hid (own_below HRow.out hb13)
 rw [← HNN.out] at HR3
 have hgb:g≠b:=fun e=>row_not HR3.out hcs (by decide) (by rw [← e];rfl)
 have HSt:=Lib.hid (fun (w9:World) (v9:Value) (hg:Grew w3 w9 (.slice (some ⟨g,0,none⟩) n cap) v9)=>((hg.1.block b (Array.getElem?_eq_some_iff.1 hcs).1 (fun e=>hgb (by simpa [Value.ownBlock] using e.symm))).trans hcs:w9.heap[b]?=some (.cells cs 85 (0,0))))
 have HC67:=Lib.hid hmr.c67
 have HC69:=Lib.hid hmr.c69
 have HMR:=Lib.hid hmr
 have hL63:n+1≤65537:=by omega
 clear HH3 hcs hmr hb13
 go_wp2_with ((with_reducible refine wpList_append1B (o:=⟨some 47,.call { callee:=.builtin .append,args:=#[.tmp 44,.tmp 46],argTypes:=#[23,23] },_,_,_,none⟩) rfl _ _ 23 rfl 25 i25 (.int .u32 0) 1 4 Tryz.underlying23 hi25 hi250 hi251 hi252 ?_ ?_ _ _ _ HR3.out _ _ w3.heap.size ?_ ?_ ?_ ?_ ?_ ?_ ?_ ?_);rfl;decide;rfl;rfl;rfl;rfl;(simp [Value.oneCell']);(unfold maxLen;omega);omega;intro g9 c9 w9 o9 r9 hl9;have hp9:=HSt.out _ _ r9;have y69:=(cell_of_row w9 b 69 _ _ _ hp9).trans HC69.out;have y67:=(cell_of_row w9 b 67 _ _ _ hp9).trans HC67.out;simp only [macV] at y67;have df:=frozen_of_row w9 b 69 _ _ hp9;have df2:=frozen_of_row w9 b 67 _ _ hp9;have HP9:=Lib.hid hp9;have HR9:=Lib.hid r9;have HO9:=Lib.hid o9;clear hp9 r9 o9)
 go_end0
 generalize hv9:Value.slice (some ⟨g9,0,none⟩) (n+1) c9=v9 at *
 have hne:=row_not HO9.out HP9.out (by decide)
 have HO:w9.ownsRow 0 25 1 v9 (n+1) (encN .u32 (l++[q])):=by rw [encN_append];exact HO9.out
 have hl9:(l++[q]).length=n+1:=by rw [List.length_append,← HNN.out];rfl
 have h1:OpsAt (w9.setCell ⟨b,69,none⟩ v9) b K (macV { s with ops:=l++[q] } v9 R) (l++[q]):=⟨⟨_,heap_setCell_same w9 b 69 _ _ _ HP9.out,HMR.out.setOps _⟩,by rw [hl9];exact ownsRow_setCell_other HO hne _⟩
 have hf1:Fr w3 (w9.setCell ⟨b,69,none⟩ v9) (opsF b vo) (opsF b v9) :=
  (Fr.grew (F:=opsF b vo) (fun g e=>.inr (by rw [HV.out];exact e)) HR9.out (F':=opsF b v9) (fun k hk=>hk.elim (fun e=>.inl (.inl e)) .inr)).trans (Fr.setCell w9 (F:=opsF b v9) (a:=⟨b,69,none⟩) (.inl rfl) _)
 have:=((H.out _ HB3.out).lift (s':={ s with ops:=l++[q] }) h1 rfl hf1).setPc (s.pc+1)
 refine ⟨rfl,v9,vt,(by simpa using this:Mach _ _ _ _ _ _ _ _ _ _).nil,?_⟩
 exact ((Fr.of HB3.out _).trans (frO hf1 M vt)).trans (frB _ b v9 M vt 67 _)
end
section
variable {w:World} {mb:Nat} {m:Img}
theorem MAt.begins (h:MAt w mb m) (i:Nat) (hi:i<4294967296) :
 Calls Tryz.prog 45 #[.pointer (some ⟨mb,0,none⟩),.int .u32 i] w fun e w'=>e=.returned (.bool ((moOf m).begins i))∧Below w.heap.size w w':=by
 have hk:=h.k
 obtain ⟨B,hB⟩:=h.a
 obtain ⟨h0,tb,b,vm,uc,vd,uj,ud,un,hm,ht,⟨c0,c1,c2,c3,c4,c5,c6,c7,c8,c9,c10,c11⟩,hio,⟨B',hBB,hf⟩,hd,hv⟩:=hB
 have HA:=Lib.hid (all_mod mb tb w hm)
 obtain ⟨vp,vo,vt,us,hA⟩:=hf
 obtain ⟨e1,e2,e3⟩:=prc_eq hk i
 have HP:=Lib.hid (fun W (hW:Below w.heap.size w W)=>begins_any (hA.below hW) (fun x hx=>(by have:=e3 x hx;omega)) i hi)
 obtain ⟨am,nm,rfl,-⟩:=own_sl hv
 show Calls Tryz.prog 45 _ w fun e w'=>e=.returned (.bool (beginsN (psTo m.code m.code.length) (ofTo m.code m.code.length) i))∧_
 generalize beginsN (psTo m.code m.code.length) (ofTo m.code m.code.length) i=bb at *
 have c0':=(Bel.new w (.cells #[.pointer (some ⟨b,0,none⟩),.slice am (flowN m.code m.js).2.1.length nm] 113)).cell (p:=⟨tb,0,none⟩) (World.block_lt_of_cell? _ _ c0)
 clear hio hd hv hA e1 e2 e3 h c0'
 generalize (flowN m.code m.js).2.1.length=ln at *
 have H247:=Lib.hid (show Calls Tryz.prog 93 #[.agg #[.pointer (some ⟨b,0,none⟩),.slice am ln nm],.int .u32 i] w fun e w'=>e=.returned (.bool bb)∧Below w.heap.size w w' by
  have HP2:=Lib.hid (HP.out _ (Bel.new w (.cells #[.pointer (some ⟨b,0,none⟩),.slice am ln nm] 113)))
  clear HA HP c0 c1 c2 c3 c4 c5 c6 c7 c8 c9 c10 c11
  go_enter Tryz.func93,Tryz.ntmps93
  go_wp2_with fail
  refine HP2.out.mono ?_
  rintro e w1 ⟨rfl,hb⟩
  have HB:=Lib.hid (Bel.tr (Bel.new _ _) hb)
  clear hb
  go_wp2_with fail
  go_ret
  exact ⟨rfl,HB.out⟩)
 clear HP
 go_enter Tryz.func45,Tryz.ntmps45
 go_wp2_with fail
 refine HA.out.mono ?_
 rintro e w1 ⟨rfl,rfl⟩
 go_wp2_with fail
 refine H247.out.mono ?_
 rintro e w1 ⟨rfl,hb⟩
 have HB:=Lib.hid hb
 clear hb
 go_wp2_with fail
 go_ret
 exact ⟨rfl,HB.out⟩
theorem ofN_of {ofs:List Nat} {x:Nat} (h:x<ofs.length):ofN ofs x=(ofs.getD x 0:Nat):=by unfold ofN;rw [if_pos h]
theorem legal_eq {m:Img} (hk:TakeOk m) {x:Nat} (hx:x<m.code.length) (ho:opAt m.code x=7) (y:Nat) :
 (decide (x<(ofTo m.code m.code.length).length) && decide (y ∈ (aimTo (ofTo m.code m.code.length) m.js (psTo m.code m.code.length).length m.js.length).getD ((ofTo m.code m.code.length).getD x 0) []))=(moOf m).legal x y:=by
 have hf:=findOk_nil hk.f
 have hl:x<(ofTo m.code m.code.length).length:=by rw [hf.tl.ol];exact hx
 have h2:=hf.hof x hl
 have e7:kindOf 7=4:=by decide +kernel
 unfold Mo.legal
 show _=decide (y ∈ nextN m.code m.js x)
 unfold nextN
 rw [ho,e7,if_neg (by decide),if_neg (by decide),if_neg (by decide),if_pos rfl,ofN_of hl]
 unfold tgtsAt
 rw [if_pos ⟨by omega,by omega⟩,decide_eq_true hl,Bool.true_and]
 rfl
theorem MAt.legal (h:MAt w mb m) (x y:Nat) (hx:x<m.code.length) (hx9:x<4294967296) (ho:opAt m.code x=7) :
 Calls Tryz.prog 122 #[.pointer (some ⟨mb,0,none⟩),.int .u32 x,.int .u32 y] w fun e w'=>e=.returned (.bool ((moOf m).legal x y))∧Below w.heap.size w w':=by
 have hk:=h.k
 have hfk:=findOk_nil hk.f
 obtain ⟨B,hB⟩:=h.a
 obtain ⟨h0,tb,b,vm,uc,vd,uj,ud,un,hm,ht,⟨c0,c1,c2,c3,c4,c5,c6,c7,c8,c9,c10,c11⟩,hio,⟨B',hBB,hf⟩,hd,hv⟩:=hB
 have HA:=Lib.hid (all_mod mb tb w hm)
 obtain ⟨vp,vo,vt,us,hA⟩:=hf
 have HP:=Lib.hid (fun W (hW:Below w.heap.size w W)=>legal_any (hA.below hW) (fun q hq=>by rw [aimTo_length];exact hfk.hof q hq) hfk.tg.sorted hfk.rows x y hx9)
 rw [legal_eq hk hx ho y] at HP
 obtain ⟨am,nm,rfl,-⟩:=own_sl hv
 generalize (moOf m).legal x y=bb at *
 clear hio hd hv hA h hk hfk ho hx
 generalize (flowN m.code m.js).2.1.length=ln at *
 have H247:=Lib.hid (show Calls Tryz.prog 153 #[.agg #[.pointer (some ⟨b,0,none⟩),.slice am ln nm],.int .u32 x,.int .u32 y] w fun e w'=>e=.returned (.bool bb)∧Below w.heap.size w w' by
  have HP2:=Lib.hid (HP.out _ (Bel.new w (.cells #[.pointer (some ⟨b,0,none⟩),.slice am ln nm] 113)))
  clear HA HP c0 c1 c2 c3 c4 c5 c6 c7 c8 c9 c10 c11
  go_enter Tryz.func153,Tryz.ntmps153
  go_wp2_with fail
  refine HP2.out.mono ?_
  rintro e w1 ⟨rfl,rfl⟩
  go_wp2_with fail
  go_ret
  exact ⟨rfl,Bel.new _ _⟩)
 clear HP
 go_enter Tryz.func122,Tryz.ntmps122
 go_wp2_with fail
 refine HA.out.mono ?_
 rintro e w1 ⟨rfl,rfl⟩
 go_wp2_with fail
 refine H247.out.mono ?_
 rintro e w1 ⟨rfl,hb⟩
 have HB:=Lib.hid hb
 clear hb
 go_wp2_with fail
 go_ret
 exact ⟨rfl,HB.out⟩
theorem back_eq (m:Img) (i:Nat):(moOf m).back i=(decide (0<i) && (decide (0≤depthAt (flowN m.code m.js).1 (i - 1)) && decide (opAt m.code (i - 1)=5))):=by
 unfold Mo.back
 rw [mo_depth]
 rfl
theorem MAt.back (h:MAt w mb m) (i:Nat) (hi:i<4294967296) :
 Calls Tryz.prog 120 #[.pointer (some ⟨mb,0,none⟩),.int .u32 i] w fun e w'=>e=.returned (.bool ((moOf m).back i))∧Below w.heap.size w w':=by
 have hk:=h.k
 obtain ⟨B,hB⟩:=h.a
 obtain ⟨h0,tb,b,vm,uc,vd,uj,ud,un,hm,ht,⟨c0,c1,c2,c3,c4,c5,c6,c7,c8,c9,c10,c11⟩,hio,hf,hd,hv⟩:=hB
 have HA:=Lib.hid (all_mod mb tb w hm)
 have hdl:(flowN m.code m.js).1.length=m.code.length:=(flowN_spec (findOk_nil hk.f) hk.r).dl
 rw [back_eq]
 have H407:Calls Tryz.prog 150 #[.agg #[uc,vd],.int .u32 i] w fun e w'=>e=.returned (.bool (decide (0<i) && (decide (0≤depthAt (flowN m.code m.js).1 (i - 1)) && decide (opAt m.code (i - 1)=5))))∧Below w.heap.size w w':=by
  obtain ⟨a1,n1,rfl,-,-,hc1⟩:=own_sl hio.c
  obtain ⟨a2,n2,rfl,-⟩:=own_sl hd
  by_cases hi0:i=0
  ·subst hi0
   rw [show decide ((0:Nat)<0)=false from rfl,Bool.false_and]
   clear hio hd hv h hf HA c0 c1 c2 c3 c4 c5 c6 c7 c8 c9 c10 c11 hc1
   go_enter Tryz.func150,Tryz.ntmps150
   go_wp2_with fail
   go_ret
   exact ⟨rfl,Bel.new _ _⟩
  ·obtain ⟨W1,hW1⟩:∃ W1,W1=w.alloc (.cells #[.slice a1 m.code.length n1,.slice a2 (flowN m.code m.js).1.length n2] 115):=⟨_,rfl⟩
   have hb1:Below w.heap.size w W1:=by rw [hW1];exact Bel.new _ _
   have hh1:W1.heap[w.heap.size]?=some (.cells #[.slice a1 m.code.length n1,.slice a2 (flowN m.code m.js).1.length n2] 115 (0,0)):=by rw [hW1];exact heap_alloc_new _ _
   have HD:=Lib.hid (depth_any a1 m.code.length n1 (flowN m.code m.js).1 (i - 1) (by omega) W1 B _ (own_below hd hb1))
   have hw1:IntKind.u32.wrap ((i:Int) - 1)=((i - 1:Nat):Int):=by rw [IntKind.wrap_u32];omega
   have hi1:(0:Int)<(i:Int):=by omega
   have k0:=cell_of_row W1 w.heap.size 0 _ _ _ hh1
   have k1:=cell_of_row W1 w.heap.size 1 _ _ _ hh1
   rw [decide_eq_true (show 0<i by omega),Bool.true_and]
   obtain ⟨j,hj⟩:∃ j,j=i - 1:=⟨_,rfl⟩
   rw [← hj] at HD hw1 ⊢
   obtain ⟨D,hD⟩:∃ D,D=(flowN m.code m.js).1:=⟨_,rfl⟩
   rw [← hD] at HD hdl k0 k1 ⊢
   rw [← hD] at hW1
   have HB1:=Lib.hid hb1
   have HH1:=Lib.hid hh1
   by_cases hd0:0≤depthAt D j
   ·have hjl:j<m.code.length:=by
     by_cases hh:j<m.code.length
     ·exact hh
     ·unfold depthAt at hd0
      rw [List.getD_eq_getElem?_getD,List.getElem?_eq_none (by omega)] at hd0
      exact absurd hd0 (by decide)
    obtain ⟨g,rfl,hg,hc⟩:=hc1 (by omega)
    have hcell:=(hc (j * 2) (by rw [encI_length];omega)).trans (encI_op m.code j hjl)
    rw [show (m.code.getD j (0,0)).1=opAt m.code j from rfl] at hcell
    have hge:(0:Int)≤depthAt D j:=hd0
    rw [decide_eq_true hd0,Bool.true_and]
    generalize depthAt D j=dj at *
    generalize opAt m.code j=oo at *
    have HC:=Lib.hid ((hb1.cell (p:=⟨g,j * 2,none⟩) hg).trans hcell)
    have hjn:(j:Int)<(m.code.length:Int):=by omega
    have hj0:(0:Int)≤(j:Int):=by omega
    generalize m.code.length=n at *
    generalize D.length=dn at *
    have hgW:g<W1.heap.size:=Nat.lt_of_lt_of_le hg hb1.size
    have hlW:w.heap.size<W1.heap.size:=(Array.getElem?_eq_some_iff.1 hh1).1
    clear hio hd hv h hf HA c0 c1 c2 c3 c4 c5 c6 c7 c8 c9 c10 c11 hc1 hc hcell hj hD hdl hb1 hh1
    go_enter Tryz.func150,Tryz.ntmps150
    go_wp2_with fail
    rw [← hW1]
    clear hW1
    refine HD.out.mono ?_
    rintro e w1 ⟨rfl,hb⟩
    have c9:=(hb.cell (p:=⟨g,j * 2,none⟩) hgW).trans HC.out
    have l0:=(hb.cell (p:=⟨w.heap.size,0,none⟩) hlW).trans k0
    have HB:=Lib.hid (Bel.tr HB1.out hb)
    clear hb
    go_wp2_with fail
    go_ret
    refine ⟨ret_boolE ?_,HB.out⟩
    rw [Bool.eq_iff_iff]
    simp
    omega
   ·have hge:¬ (0:Int)≤depthAt D j:=hd0
    rw [decide_eq_false hd0,Bool.false_and]
    generalize depthAt D j=dj at *
    generalize m.code.length=n at *
    generalize D.length=dn at *
    clear hio hd hv h hf HA c0 c1 c2 c3 c4 c5 c6 c7 c8 c9 c10 c11 hc1 hj hD hdl hb1 hh1
    go_enter Tryz.func150,Tryz.ntmps150
    go_wp2_with fail
    rw [← hW1]
    clear hW1
    refine HD.out.mono ?_
    rintro e w1 ⟨rfl,hb⟩
    have HB:=Lib.hid (Bel.tr HB1.out hb)
    clear hb
    go_wp2_with fail
    go_ret
    exact ⟨rfl,HB.out⟩
 have HX:=Lib.hid H407
 generalize (decide (0<i) && (decide (0≤depthAt (flowN m.code m.js).1 (i - 1)) && decide (opAt m.code (i - 1)=5)))=bb at *
 obtain ⟨a1,n1,rfl,-⟩:=own_sl hio.c
 obtain ⟨a2,n2,rfl,-⟩:=own_sl hd
 clear hio hd hv h hf H407 hk hdl
 generalize m.code.length=n at *
 generalize (flowN m.code m.js).1.length=dn at *
 go_enter Tryz.func120,Tryz.ntmps120
 go_wp2_with fail
 refine HA.out.mono ?_
 rintro e w1 ⟨rfl,rfl⟩
 go_wp2_with fail
 refine HX.out.mono ?_
 rintro e w1 ⟨rfl,hb⟩
 have HB:=Lib.hid hb
 clear hb
 go_wp2_with fail
 go_ret
 exact ⟨rfl,HB.out⟩
end
structure Home (w0 w:World) (F:Nat→Prop):Prop where
 b:Below w0.heap.size w0 w
 f:∀ k,F k→w0.heap.size≤k
theorem Home.fr {w0 w w':World} {F F':Nat→Prop} (h:Home w0 w F) (hf:Fr w w' F F'):Home w0 w' F' :=
 ⟨⟨hf.os.trans h.b.os,hf.tape.trans h.b.tape,hf.output.trans h.b.output,Nat.le_trans h.b.size hf.size,
  fun k hk=>(hf.block k (Nat.lt_of_lt_of_le hk h.b.size) (fun e=>absurd (h.f k e) (by omega))).trans (h.b.block k hk)⟩,
  fun k hk=>(hf.foot k hk).elim (h.f k) (fun e=>Nat.le_trans h.b.size e)⟩
theorem Home.mat {w0 w:World} {F:Nat→Prop} (h:Home w0 w F) {mb:Nat} {m:Img} (hm:MAt w0 mb m):MAt w mb m:=hm.below h.b
theorem Home.sub {w0 w:World} {F G:Nat→Prop} (h:Home w0 w F) (hg:∀ k,G k→F k):Home w0 w G:=⟨h.b,fun k hk=>h.f k (hg k hk)⟩
theorem MacB.c0 {w:World} {b:Nat} {K:MacK} {V:MacV} (h:MacB w b K V):w.cell? ⟨b,0,none⟩=some K.md:=by
 obtain ⟨cs,h,r⟩:=h
 exact (cell_of_row w b 0 _ _ _ h).trans r.c0
section
variable {w0 w:World} {b:Nat} {K:MacK} {s:St} {vo:Value} {R:MacR} {M:MemK} {vt:Value} {logs:Bool} {tou:List (Nat×Bool)} {mb:Nat} {m:Img}
theorem frV {w w':World} {F:Nat→Prop} {vo':Value} (hv:vo'.ownBlock=vo.ownBlock) (h:Fr w w' F (machF b vo' M vt)):Fr w w' F (machF b vo M vt) :=
 h.mono (fun _ e=>e) (fun i e=>.inr (e.elim (fun e2=>.inl (e2.elim .inl (fun e3=>.inr (by rw [hv];exact e3)))) .inr))
theorem Mach.rowB {w':World} {F':Nat→Prop} (h:Mach w b K s vo R M vt logs tou) (hf:Fr w w' (fun k=>k=b) F'):w'.ownsRow 0 25 1 vo s.ops.length (encN .u32 s.ops) :=
 own_fr h.o.o hf (fun g e e2=>h.o.m.not_own h.o.o (by decide) (by rw [← e2];exact e))
theorem jump_act {l:List Nat} {x:Nat} (h:Mach w b K s vo R M vt logs tou) (hh:Home w0 w (machF b vo M vt)) (hm:MAt w0 mb m) (hk:K.md=.pointer (some ⟨mb,0,none⟩)) (ho:s.ops=l++[x]) (hn:l.length≤65535) (hp:s.pc<m.code.length) (hp9:s.pc<4294967295) (h7:opAt m.code s.pc=7) (o a:Nat) :
 Calls Tryz.prog 77 #[.pointer (some ⟨b,0,none⟩),.agg #[.int .u8 o,.int .u32 a]] w fun e w' =>
  if (moOf m).legal s.pc x then ActOk b K R M logs tou vo vt w ({ s with pc:=x,ops:=l },[]) e w' else ActFlt b K s R M logs tou vo vt w 3 [] e w':=by
 have hmx:Tryz.prog.follows .mixedOrders=true:=by kernel_rfl
 have hb1:=Bel.new w (.cells #[.int .u8 o,.int .u32 a] 106)
 have HP:=Lib.hid ((h.below hb1).pop ho (by omega))
 have HB1:=Lib.hid hb1
 have HRow:=Lib.hid (fun w' F'=>(h.below hb1).rowB (w':=w') (F':=F'))
 have HL:=Lib.hid (fun W F (hW:Home w0 W F)=>(hW.mat hm).legal s.pc x hp (by omega) h7)
 have HH:=Lib.hid (hh.fr (Fr.of hb1 _))
 generalize hq:(moOf m).legal s.pc x=q at *
 generalize hR:(fun e w'=>if q then ActOk b K R M logs tou vo vt w ({ s with pc:=x,ops:=l },[]) e w' else ActFlt b K s R M logs tou vo vt w 3 [] e w')=Q
 have HQ:=Lib.hid hR
 clear h hh hm ho hp h7 hb1 hq hR
 go_enter Tryz.func77,Tryz.ntmps77
 go_wp2_with fail
 refine HP.out.mono ?_
 rintro e w1 ⟨rfl,vo1,m1,f1,fb,hv⟩
 have HV:=Lib.hid hv
 clear hv
 have k0:=m1.o.m.c0
 rw [hk] at k0
 have k67:=m1.o.m.cells.c67
 simp only [macV] at k67
 have HH1:=Lib.hid ((HH.out.fr f1).fr (Fr.of (Below.refl _ _).drew _))
 have HM1:=Lib.hid (fun W (hW:Below w1.heap.size w1 W)=>m1.below hW)
 have HR1:=Lib.hid (HRow.out _ _ fb)
 have HF1:=Lib.hid f1
 have hbl:b<w1.heap.size:=m1.lt
 clear m1 f1 fb
 go_wp2_with fail
 first|(go_region_held3 (fun W=>W.cell? ⟨b,0,none⟩=some (.pointer (some ⟨mb,0,none⟩))∧W.cell? ⟨b,67,none⟩=some (.int .u32 s.pc))
  (first|assumption|exact ⟨by assumption,by assumption⟩)
  ((go_at_call 122; refine (HL.out _ _ HH1.out).mono ?_; rintro e w3 ⟨rfl, hb3⟩; have x1 := (hb3.cell (p := ⟨b, 0, none⟩) hbl).trans k0; have x2 := (hb3.cell (p := ⟨b, 67, none⟩) hbl).trans k67; have HB3 := Lib.hid (Bel.tr (Below.refl w1.heap.size w1).drew hb3); clear hb3))) | fail "held"
 have HM3:=Lib.hid (HM1.out _ HB3.out)
 have y67:=HM3.out.o.m.cells.c67
 have yf:=HM3.out.o.m.cells.fz
 cases q
 ·go_wp2_with fail
  rw [← HQ.out]
  exact ⟨rfl,rfl,vo1,vt,HM3.out.o.m,own_below HR1.out HB3.out,HM3.out.nil.mem,frV HV.out (((Fr.of HB1.out _).trans HF1.out).trans (Fr.of HB3.out _))⟩
 ·go_wp2_with fail
  go_end0
  rw [← HQ.out]
  have:=HM3.out.setPc x
  refine ⟨rfl,vo1,vt,(by simpa using this:Mach _ _ _ _ _ _ _ _ _ _).nil,?_⟩
  exact (((Fr.of HB1.out _).trans HF1.out).trans (Fr.of HB3.out _)).trans (frB _ b vo1 M vt 67 _)
end
open Go.RowKit Go.Maps
theorem law25:Keyed Tryz.prog 25:=int_keyed Tryz.underlying25
theorem gzero3 (w:World):(zeroValue 3).run Tryz.prog w=.ok (.int .i64 0) w:=by kernel_rfl
def gateT (D:DataW Unit) (l:List (Nat×Int)):DataW Unit:=l.foldl (fun D g=>D.put (.int .u32 g.1) (.lit (.int .i64 g.2))) D
def gateD (l:List (Nat×Int)):DataW Unit:=gateT (.map []) l
theorem gateD_snoc (l:List (Nat×Int)) (g:Nat×Int):gateD (l++[g])=(gateD l).put (.int .u32 g.1) (.lit (.int .i64 g.2)):=by
 unfold gateD gateT;rw [List.foldl_append];rfl
theorem lit_ne {x y:Nat} (h:x≠y):(Lit.int .u32 (x:Int))≠Lit.int .u32 (y:Int):=fun e=>by
 injection e with _ e;omega
theorem isKey_u32 (x:Nat):WideAt.IsKeyLit (.int .u32 (x:Int)):=trivial
theorem granted_cons (g:Nat×Int) (l:List (Nat×Int)) (x:Nat):grantedN (g :: l) x=if g.1=x then some g.2 else grantedN l x:=by
 unfold grantedN
 rw [List.find?_cons]
 by_cases h:g.1=x
 ·rw [if_pos h,show (g.1 == x)=true by simpa using h];rfl
 ·rw [if_neg h,show (g.1 == x)=false by simpa using h]
theorem granted_none {l:List (Nat×Int)} {x:Nat} (h:x ∉ l.map (·.1)):grantedN l x=none:=by
 induction l with
 | nil=>rfl
 | cons g l ih =>
  rw [granted_cons]
  simp only [List.map_cons,List.mem_cons,not_or] at h
  rw [if_neg (fun e=>h.1 e.symm),ih h.2]
theorem gateT_look (x:Nat):∀ (l:List (Nat×Int)) (D:DataW Unit),IsMap D→(l.map (·.1)).Nodup →
 Maps.has (gateT D l) (.int .u32 x)=((grantedN l x).isSome || Maps.has D (.int .u32 x)) ∧
 (gateT D l).atKey (.int .u32 x) (.lit (.int .i64 0))=(match grantedN l x with|some n=>.lit (.int .i64 n)|none=>D.atKey (.int .u32 x) (.lit (.int .i64 0)))
 | [],D,_,_=>⟨rfl,rfl⟩
 | g :: l,D,hD,hn=>by
  simp only [List.map_cons,List.nodup_cons] at hn
  obtain ⟨h1,h2⟩:=gateT_look x l (D.put (.int .u32 g.1) (.lit (.int .i64 g.2))) (hD.put _ _) hn.2
  rw [show gateT D (g :: l)=gateT (D.put (.int .u32 g.1) (.lit (.int .i64 g.2))) l from rfl,h1,h2,granted_cons]
  by_cases h:g.1=x
  ·subst h
   rw [if_pos rfl,granted_none hn.1,has_put_same hD (isKey_u32 _)]
   exact ⟨rfl,atKey_put_same hD (isKey_u32 _) _ _⟩
  ·rw [if_neg h,has_put_other (lit_ne (Ne.symm h)),atKey_put_other (lit_ne (Ne.symm h))]
   exact ⟨rfl,rfl⟩
theorem gateD_has {l:List (Nat×Int)} (hn:(l.map (·.1)).Nodup) (x:Nat):Maps.has (gateD l) (.int .u32 x)=(grantedN l x).isSome:=by
 have:=(gateT_look x l (.map []) isMap_empty hn).1
 rw [show gateD l=gateT (.map []) l from rfl,this]
 simp [Maps.has]
theorem gateD_at {l:List (Nat×Int)} (hn:(l.map (·.1)).Nodup) (x:Nat) {c:Int} (h:(gateD l).atKey (.int .u32 x) (.lit (.int .i64 0))=.lit (.int .i64 c)):c=(grantedN l x).getD 0:=by
 rw [show gateD l=gateT (.map []) l from rfl,(gateT_look x l (.map []) isMap_empty hn).2] at h
 cases e:grantedN l x with
 | some n=>rw [e] at h;simp at h;simpa using h.symm
 | none=>rw [e] at h;simp [DataW.atKey] at h;simpa using h.symm
structure GrOk (gr:List (Nat×Int)):Prop where
 n:gr.length≤64
 nd:(gr.map (·.1)).Nodup
 b:∀ g ∈ gr,0≤g.2∧g.2≤15∧g.1≤2147483647
theorem GrOk.bd {gr:List (Nat×Int)} (h:GrOk gr) {x:Nat} {n:Int} (hg:grantedN gr x=some n):0≤n∧n≤15:=by
 have:∃ g ∈ gr,g.2=n:=by
  unfold grantedN at hg
  cases e:gr.find? (fun g=>g.1 == x) with
  | none=>rw [e] at hg;cases hg
  | some g=>rw [e] at hg;exact ⟨g,List.mem_of_find?_eq_some e,by simpa using hg⟩
 obtain ⟨g,hg1,rfl⟩:=this
 exact ⟨(h.b g hg1).1,(h.b g hg1).2.1⟩
def GateAt (w:World) (v:Value) (gr:List (Nat×Int)):Prop :=
 ∃ gb mp,v=.pointer (some ⟨gb,0,none⟩)∧w.cell? ⟨gb,0,none⟩=some (.map (some mp))∧w.ownsMap Tryz.prog 25 (plainElem (H:=Unit) Tryz.prog 3) mp gr.length (gateD gr)∧GrOk gr
theorem GateAt.below {w w':World} {v:Value} {gr:List (Nat×Int)} (h:GateAt w v gr) (hb:Below w.heap.size w w'):GateAt w' v gr:=by
 obtain ⟨gb,mp,rfl,hc,hm,hk⟩:=h
 exact ⟨gb,mp,rfl,(hb.cell (p:=⟨gb,0,none⟩) (World.block_lt_of_cell? _ _ hc)).trans hc,hm.kept (below_grownBy hb none) (by simp),hk⟩
theorem run_neqmap (mp:Nat) (w:World):(binOp .neq 155 (.map (some mp)) (.map none)).run Tryz.prog w=.ok (.bool true) w:=by kernel_rfl
section
variable {w:World} {v:Value} {gr:List (Nat×Int)}
theorem gmade_any (h:GateAt w v gr):Calls Tryz.prog 148 #[v] w fun e w'=>e=.returned (.bool true)∧w=w':=by
 obtain ⟨gb,mp,rfl,hc,hm,hk⟩:=h
 have hnm:=run_neqmap
 clear hm hk
 go_enter Tryz.func148,Tryz.ntmps148
 go_wp2_with fail
 go_ret
 exact ⟨rfl,rfl⟩
theorem granted_any (h:GateAt w v gr) (x:Nat) (hx:x<4294967296) :
 Calls Tryz.prog 116 #[v,.int .u32 x] w fun e w'=>e=.returned (.tuple #[.int .i64 ((grantedN gr x).getD 0),.bool (grantedN gr x).isSome])∧w=w':=by
 have HM:=Lib.hid (gmade_any h)
 obtain ⟨gb,mp,rfl,hc,hm,hk⟩:=h
 have hkey:keyOf Tryz.prog 25 (.int .u32 x)=some (.int .u32 x):=keyOf_int_mk Tryz.underlying25 (WalkArith.wf_u32 (by omega))
 have hh:=gateD_has hk.nd x
 have HA:=Lib.hid (fun c=>gateD_at hk.nd x (c:=c))
 have HW:=Lib.hid hm
 generalize hbo:(grantedN gr x).isSome=bo at *
 generalize hno:(grantedN gr x).getD 0=no at *
 clear hm hk
 go_enter Tryz.func116,Tryz.ntmps116
 go_wp2_with fail
 refine HM.out.mono ?_
 rintro e w1 ⟨rfl,rfl⟩
 go_wp2_with (at_lookup;refine wpList_lookup_own_ok_int _ rfl _ _ 155 rfl 25 3 .i64 law25 Tryz.underlying155 Tryz.underlying3 (gzero3 _) mp gr.length _ rfl HW.out _ _ rfl hkey ?_;intro c hat hwc;rw [hh,HA.out c hat])
 go_ret2
 exact ⟨rfl,rfl⟩
theorem xor_max {x:Nat} (h:x<4294967296):bits .xor .u32 IntKind.u32.max (x:Int)=((4294967295 - x:Nat):Int):=by
 have e:(IntKind.u32.max:Int)=((4294967295:Nat):Int):=rfl
 rw [e,u32_xor_nat _ _ (by decide) h]
 congr 1
 have h1:(4294967295 ^^^ x:Nat)=(BitVec.allOnes 32 ^^^ BitVec.ofNat 32 x).toNat:=by
  rw [BitVec.toNat_xor,BitVec.toNat_ofNat,Nat.mod_eq_of_lt (by omega)];rfl
 rw [h1,BitVec.allOnes_xor,BitVec.toNat_not,BitVec.toNat_ofNat,Nat.mod_eq_of_lt (by omega)]
theorem gnumber_any (x:Nat) (hx:x<4294967296) (w:World) :
 Calls Tryz.prog 64 #[.int .u32 x] w fun e w'=>e=.returned (.tuple #[.int .u32 (if 2147483648≤x then 4294967295 - x else 0:Nat),.bool (decide (2147483648≤x))])∧w=w':=by
 by_cases h:2147483648≤x
 ·obtain ⟨y,e1,e2⟩:∃ y,IntKind.i32.wrap (x:Int)=y∧¬ (0:Int)≤y:=⟨_,rfl,by rw [IntKind.wrap_i32];omega⟩
  have e3:=xor_max hx
  rw [if_pos h,decide_eq_true h]
  generalize 4294967295 - x=q at *
  clear h hx
  go_enter Tryz.func64,Tryz.ntmps64
  go_wp2_with fail
  go_ret2
  exact ⟨rfl,rfl⟩
 ·have e1:IntKind.i32.wrap (x:Int)=(x:Int):=by rw [IntKind.wrap_i32];omega
  have e2:(0:Int)≤(x:Int):=by omega
  rw [if_neg h,decide_eq_false h]
  go_enter Tryz.func64,Tryz.ntmps64
  go_wp2_with fail
  go_ret2
  exact ⟨rfl,rfl⟩
end
section
variable {w0 w:World} {b:Nat} {K:MacK} {s:St} {vo:Value} {R:MacR} {M:MemK} {vt:Value} {logs:Bool} {tou:List (Nat×Bool)} {mb:Nat} {m:Img}
theorem Mach.top1 {l:List Nat} {x:Nat} (h:Mach w b K s vo R M vt logs tou) (ho:s.ops=l++[x]):∃ g cap,vo=.slice (some ⟨g,0,none⟩) (l.length+1) cap∧w.cell? ⟨g,l.length,none⟩=some (.int .u32 x):=by
 have h1:OpsAt w b K (macV s vo R) (l++[x]):=by rw [← ho];exact h.o
 exact h1.top
def CallPost (mo:Mo) (b:Nat) (K:MacK) (s:St) (R:MacR) (M:MemK) (logs:Bool) (tou:List (Nat×Bool)) (vo vt:Value) (w:World) (l:List Nat) (x:Nat) (e:Ending) (w':World):Prop :=
 if mo.begins x=false then ActFlt b K s R M logs tou vo vt w 4 [] e w'
 else if 64<(l.length:Int)+mo.need x then ActFlt b K s R M logs tou vo vt w 5 [] e w'
 else ActOk b K R M logs tou vo vt w ({ s with ops:=l,data:=storeN s.data s.sp (s.pc+1) 4,pc:=x },touN M.N s.sp 4 true) e w'
theorem call_act {l:List Nat} {x:Nat} (h:Mach w b K s vo R M vt logs tou) (hh:Home w0 w (machF b vo M vt)) (hm:MAt w0 mb m) (hk:K.md=.pointer (some ⟨mb,0,none⟩)) (ho:s.ops=l++[x]) (hx:x<2147483648) (hn:l.length≤65535) (hp9:s.pc<4294967295) (hs:s.sp<4294967296) (o a:Nat) :
 Calls Tryz.prog 75 #[.pointer (some ⟨b,0,none⟩),.agg #[.int .u8 o,.int .u32 a]] w (CallPost (moOf m) b K s R M logs tou vo vt w l x):=by
 have hmx:Tryz.prog.follows .mixedOrders=true:=by kernel_rfl
 obtain ⟨W1,hW1⟩:∃ W1,W1=w.alloc (.cells #[.int .u8 o,.int .u32 a] 106):=⟨_,rfl⟩
 have hb1:Below w.heap.size w W1:=by rw [hW1];exact Bel.new _ _
 have H:=Lib.hid (fun W (hW:Below w.heap.size w W)=>h.below hW)
 have HHm:=Lib.hid (fun W (hW:Below w.heap.size w W)=>hh.fr (Fr.of hW _))
 obtain ⟨g,cap,hv,k0⟩:=(h.below hb1).top1 ho
 have c69:=(h.below hb1).o.m.cells.c69
 simp only [macV] at c69
 rw [hv] at c69
 have HV:=Lib.hid hv
 obtain ⟨n,hnn⟩:∃ n,n=l.length:=⟨_,rfl⟩
 rw [← hnn] at c69 k0 hn
 have HB1:=Lib.hid hb1
 have HO:=Lib.hid ho
 have e1:(((n+1:Nat):Int)) - 1=(n:Int):=by omega
 have w1:IntKind.i64.wrap (n:Int)=(n:Int):=IntWalk.i64_in _ (by omega)
 have hlt1:(n:Int)<(n:Int)+1:=by omega
 have hlt2:n<n+1:=by omega
 have hn1:(0:Int)≤(n:Int):=by omega
 have HG:=Lib.hid (fun W=>gnumber_any x (by omega) W)
 rw [if_neg (by omega),decide_eq_false (by omega)] at HG
 have HBe:=Lib.hid (fun W (hW:Below w.heap.size w W)=>((hh.fr (Fr.of hW _)).mat hm).begins x (by omega))
 have HPr:=Lib.hid (fun W (hW:Below w.heap.size w W)=>((hh.fr (Fr.of hW _)).mat hm).proc x (by omega))
 have hne:=mo_need hm.k x
 have hq:=need_bd m x
 have hw:IntKind.u32.wrap ((s.pc:Int)+1)=((s.pc+1:Nat):Int):=by rw [IntKind.wrap_u32];omega
 unfold CallPost
 rw [hne,← hnn]
 generalize hbg:(moOf m).begins x=bg at *
 generalize needN m x=q at *
 generalize decide (x<m.code.length)=bb at *
 unfold prcV at HPr
 generalize prcN m x=p at *
 obtain ⟨p0,p1,p2⟩:=p
 simp only at HPr
 have w2:IntKind.i64.wrap ((n:Int)+q)=(n:Int)+q:=IntWalk.i64_in _ (by omega)
 generalize hR:(fun e w'=>if bg=false then ActFlt b K s R M logs tou vo vt w 4 [] e w' else if 64<(n:Int)+q then ActFlt b K s R M logs tou vo vt w 5 [] e w' else ActOk b K R M logs tou vo vt w ({ s with ops:=l,data:=storeN s.data s.sp (s.pc+1) 4,pc:=x },touN M.N s.sp 4 true) e w')=Q
 have HQ:=Lib.hid hR
 have HNN:=Lib.hid hnn
 clear h hh hm ho hb1 hv hnn hbg hR hne
 go_enter Tryz.func75,Tryz.ntmps75
 go_wp2_with fail
 rw [← hW1]
 clear hW1
 go_quiet (fail)
 have hb2:Below w.heap.size w (W1.drewN nq):=below_drewN HB1.out nq
 clear c69 k0
 obtain ⟨W2,hW2⟩:∃ W2,W2=W1.drewN nq:=⟨_,rfl⟩
 rw [← hW2] at hb2 ⊢
 have k00:=(H.out W2 hb2).o.m.c0
 rw [hk] at k00
 have HBe2:=Lib.hid (HBe.out W2 hb2)
 have HB2:=Lib.hid hb2
 clear hW2 hb2
 go_wp2_with fail
 refine (HG.out _).mono ?_
 rintro e W3 ⟨rfl,rfl⟩
 go_wp2_with fail
 refine HBe2.out.mono ?_
 rintro e W4 ⟨rfl,hb4⟩
 have hb5:=Bel.tr HB2.out hb4
 have k04:=(H.out W4 hb5).o.m.c0
 rw [hk] at k04
 have HPr4:=Lib.hid (HPr.out W4 hb5)
 have HB4:=Lib.hid hb5
 have hm4:=(H.out W4 hb5).nil
 have HM4:=Lib.hid hm4
 clear hb4 hb5 hm4 k00
 cases bg
 ·go_wp2_with fail
  rw [← HQ.out]
  exact ⟨rfl,rfl,vo,vt,HM4.out.o.m,HM4.out.o.o,HM4.out.mem,Fr.of HB4.out _⟩
 go_wp2_with fail
 refine HPr4.out.mono ?_
 rintro e W5 ⟨rfl,hb5⟩
 obtain ⟨W6,hW6⟩:∃ W6,W6=W5.alloc (.cells #[.int .u32 p0,.int .u32 p1,.int .u32 p2,.int .i64 q] 126):=⟨_,rfl⟩
 have hb6:Below w.heap.size w W6:=by rw [hW6];exact Bel.al (Bel.tr HB4.out hb5) _
 have hh6:W6.heap[W5.heap.size]?=some (.cells #[.int .u32 p0,.int .u32 p1,.int .u32 p2,.int .i64 q] 126 (0,0)):=by rw [hW6];exact heap_alloc_new _ _
 have d3:=cell_of_row W6 W5.heap.size 3 _ _ _ hh6
 have k69:=(H.out W6 hb6).o.m.cells.c69
 simp only [macV] at k69
 rw [HV.out,← HNN.out] at k69
 have HB6:=Lib.hid hb6
 clear hb5 hb6 hh6 HPr4 k04
 by_cases h64:64<(n:Int)+q
 ·go_wp2_with fail
  rw [← hW6]
  clear hW6
  go_quiet (fail)
  have hb7:Below w.heap.size w (W6.drewN nq):=below_drewN HB6.out nq
  clear k69 d3
  obtain ⟨W7,hW7⟩:∃ W7,W7=W6.drewN nq:=⟨_,rfl⟩
  rw [← hW7] at hb7 ⊢
  have HM7:=Lib.hid ((H.out W7 hb7).nil)
  have HB7:=Lib.hid hb7
  clear hW7 hb7
  go_wp2_with fail
  rw [← HQ.out]
  simp only [Bool.true_eq_false,↓reduceIte,h64]
  exact ⟨rfl,rfl,vo,vt,HM7.out.o.m,HM7.out.o.o,HM7.out.mem,Fr.of HB7.out _⟩
 ·go_wp2_with fail
  rw [← hW6]
  clear hW6
  go_quiet (fail)
  have hb7:Below w.heap.size w (W6.drewN nq):=below_drewN HB6.out nq
  clear k69 d3
  obtain ⟨W7,hW7⟩:∃ W7,W7=W6.drewN nq:=⟨_,rfl⟩
  rw [← hW7] at hb7 ⊢
  have HP7:=Lib.hid ((H.out W7 hb7).pop HO.out (by have:=HNN.out;omega))
  have HB7:=Lib.hid hb7
  clear hW7 hb7
  go_wp2_with fail
  refine HP7.out.mono ?_
  rintro e w8 ⟨rfl,vo8,m8,f8,-,-⟩
  have c65:=m8.c65
  have c68:=m8.o.m.cells.c68
  have c67:=m8.o.m.cells.c67
  simp only [macV] at c68 c67
  have HS:=Lib.hid (store4_mem (m8.below (Below.refl _ _).drew).mem hs (show s.pc+1<4294967296 by omega))
  have HM8:=Lib.hid (m8.below (Below.refl _ _).drew)
  have HF8:=Lib.hid f8
  clear m8 f8
  go_wp2_with fail
  refine wp_region_still_tail 13 hmx (by kernel_rfl) ?_
  simp only [List.take_succ_cons,List.take_zero,List.drop_succ_cons,List.drop_zero]
  repeat still_step
  refine wpStill_nil ?_
  change wpList _ _ _ _ _ w8.drew
  go_wp2_with fail
  refine HS.out.mono ?_
  rintro e w9 ⟨rfl,vt9,m9,f9⟩
  have HM9:=Lib.hid (HM8.out.liftM m9 f9)
  have HF9:=Lib.hid (frM f9 b vo8)
  have g67:=HM9.out.o.m.cells.c67
  have gf:=HM9.out.o.m.cells.fz
  simp only [macV] at g67
  clear m9 f9 c65 c68 c67
  go_wp2_with fail
  go_end0
  rw [← HQ.out]
  have h65:¬ 64<(n:Int)+q:=by omega
  simp only [Bool.true_eq_false,↓reduceIte,if_neg h65]
  have:=HM9.out.setPc x
  refine ⟨rfl,vo8,vt9,by simpa using this,?_⟩
  exact ((((Fr.of HB7.out _).trans HF8.out).drew).trans HF9.out).trans (frB _ b vo8 M vt9 67 _)
end
section
variable {w0 w:World} {b:Nat} {K:MacK} {s:St} {vo:Value} {R:MacR} {M:MemK} {vt:Value} {logs:Bool} {tou:List (Nat×Bool)} {mb:Nat} {m:Img}
theorem MacB.c70 {V:MacV} (h:MacB w b K V):w.cell? ⟨b,70,none⟩=some (.int .u32 V.value):=by
 obtain ⟨cs,h,r⟩:=h
 exact (cell_of_row w b 70 _ _ _ h).trans r.c70
def LeavePost (mo:Mo) (b:Nat) (K:MacK) (s:St) (R:MacR) (M:MemK) (logs:Bool) (tou:List (Nat×Bool)) (vo vt:Value) (w:World) (n:Nat) (l:List Nat) (x top p r:Nat) (e:Ending) (w':World):Prop :=
 if top<p then ActFlt b K s R M logs tou vo vt w 6 [] e w'
 else if r=4294967295 then ActOk b K R M logs tou vo vt w ({ s with life:=2,value:=x,sp:=p,ops:=l },touN M.N p 4 false) e w'
 else if mo.back r=false ∨ ((n:Int)+1)<mo.depth r then ActFlt b K s R M logs tou vo vt w 7 (touN M.N p 4 false) e w'
 else if 64<((n:Int)+1) - mo.depth r+mo.need r then ActFlt b K s R M logs tou vo vt w 5 (touN M.N p 4 false) e w'
 else ActOk b K R M logs tou vo vt w ({ s with sp:=p,pc:=r },touN M.N p 4 false) e w'
theorem leave_act {l:List Nat} {x:Nat} (h:Mach w b K s vo R M vt logs tou) (hh:Home w0 w (machF b vo M vt)) (hm:MAt w0 mb m) (hk:K.md=.pointer (some ⟨mb,0,none⟩)) (ho:s.ops=l++[x]) (hn:l.length≤65535) (hs:s.sp<4294967296) (ht:K.top<4294967296) (o a:Nat) (ha:a<4294967296)
 (hr9:loadN s.data ((s.sp+a) % 4294967296) 4<4294967296) :
 Calls Tryz.prog 74 #[.pointer (some ⟨b,0,none⟩),.agg #[.int .u8 o,.int .u32 a]] w (LeavePost (moOf m) b K s R M logs tou vo vt w l.length l x K.top ((s.sp+a) % 4294967296) (loadN s.data ((s.sp+a) % 4294967296) 4)):=by
 have hmx:Tryz.prog.follows .mixedOrders=true:=by kernel_rfl
 obtain ⟨W1,hW1⟩:∃ W1,W1=w.alloc (.cells #[.int .u8 o,.int .u32 a] 106):=⟨_,rfl⟩
 have hb1:Below w.heap.size w W1:=by rw [hW1];exact Bel.new _ _
 have hh1:W1.heap[w.heap.size]?=some (.cells #[.int .u8 o,.int .u32 a] 106 (0,0)):=by rw [hW1];exact heap_alloc_new _ _
 have d1:=cell_of_row W1 w.heap.size 1 _ _ _ hh1
 have H:=Lib.hid (fun W (hW:Below w.heap.size w W)=>h.below hW)
 have c68:=(h.below hb1).o.m.cells.c68
 simp only [macV] at c68
 have HB1:=Lib.hid hb1
 have HO:=Lib.hid ho
 obtain ⟨n,hnn⟩:∃ n,n=l.length:=⟨_,rfl⟩
 rw [← hnn] at hn ⊢
 have HNN:=Lib.hid hnn
 obtain ⟨p,hp⟩:∃ p,p=(s.sp+a) % 4294967296:=⟨_,rfl⟩
 have hpv:IntKind.u32.wrap ((s.sp:Int)+(a:Int))=(p:Int):=by rw [IntKind.wrap_u32];omega
 have hp9:p<4294967296:=by omega
 rw [← hp] at hr9 ⊢
 obtain ⟨r,hr⟩:∃ r,r=loadN s.data p 4:=⟨_,rfl⟩
 rw [← hr] at hr9 ⊢
 have HR9:=Lib.hid hr
 have HH:=Lib.hid hh
 have HMt:=Lib.hid (fun W F (hW:Home w0 W F)=>hW.mat hm)
 have hdq:=mo_depth m r
 have hnq:=mo_need hm.k r
 have hdb:=depth_bd m r
 have hqb:=need_bd m r
 unfold LeavePost
 rw [hdq,hnq]
 have HBk0:=Lib.hid (fun W F (hW:Home w0 W F)=>(HMt.out W F hW).back r hr9)
 have HDp0:=Lib.hid (fun W F (hW:Home w0 W F)=>(HMt.out W F hW).depth r hr9)
 have HPr0:=Lib.hid (fun W F (hW:Home w0 W F)=>(HMt.out W F hW).proc r hr9)
 generalize (moOf m).back r=bk at *
 generalize depthAt (flowN m.code m.js).1 r=dd at *
 generalize needN m r=q at *
 generalize decide (r<m.code.length)=bb at *
 unfold prcV at HPr0
 generalize prcN m r=pp at *
 obtain ⟨p0,p1,p2⟩:=pp
 simp only at HPr0
 generalize hRR:(fun e w'=>if K.top<p then ActFlt b K s R M logs tou vo vt w 6 [] e w'
  else if r=4294967295 then ActOk b K R M logs tou vo vt w ({ s with life:=2,value:=x,sp:=p,ops:=l },touN M.N p 4 false) e w'
  else if bk=false ∨ ((n:Int)+1)<dd then ActFlt b K s R M logs tou vo vt w 7 (touN M.N p 4 false) e w'
  else if 64<((n:Int)+1) - dd+q then ActFlt b K s R M logs tou vo vt w 5 (touN M.N p 4 false) e w'
  else ActOk b K R M logs tou vo vt w ({ s with sp:=p,pc:=r },touN M.N p 4 false) e w')=Q
 have HQ:=Lib.hid hRR
 clear h hh ho hb1 hnn hRR hh1 hr hp hm hdq hnq
 go_enter Tryz.func74,Tryz.ntmps74
 go_wp2_with fail
 rw [← hW1]
 clear hW1
 go_quiet (fail)
 have hb2:Below w.heap.size w (W1.drewN nq):=below_drewN HB1.out nq
 clear c68 d1
 obtain ⟨W2,hW2⟩:∃ W2,W2=W1.drewN nq:=⟨_,rfl⟩
 rw [← hW2] at hb2 ⊢
 have hm2:=H.out W2 hb2
 have c64:=hm2.o.m.cells.c64
 have c65:=hm2.c65
 have HM2:=Lib.hid hm2
 have HLd:=Lib.hid (load4_mem hm2.mem hp9)
 have HB2:=Lib.hid hb2
 have HH2:=Lib.hid (HH.out.fr (Fr.of hb2 _))
 clear hW2 hm2 hb2
 by_cases h1:K.top<p
 ·have h1i:(K.top:Int)<(p:Int):=by omega
  go_wp2_with fail
  rw [← HQ.out]
  simp only [if_pos h1]
  exact ⟨rfl,rfl,vo,vt,HM2.out.o.m,HM2.out.o.o,HM2.out.nil.mem,Fr.of HB2.out _⟩
 have h1i:¬ (K.top:Int)<(p:Int):=by omega
 go_wp2_with fail
 refine HLd.out.mono ?_
 rintro e w4 ⟨e9,vt4,m4,f4⟩
 rw [← HR9.out] at e9
 subst e9
 have hm4:=HM2.out.liftM m4 f4
 have hm4:Mach w4 b K s vo R M vt4 logs (touL logs tou (touN M.N p 4 false)):=hm4
 have HF4:=Lib.hid ((Fr.of HB2.out _).trans (frM f4 b vo))
 have HH4:=Lib.hid (HH2.out.fr (frM f4 b vo))
 have HM4:=Lib.hid hm4
 have HPop:=Lib.hid (hm4.pop HO.out (by have:=HNN.out;omega))
 obtain ⟨g,cap,hv,-⟩:=hm4.top1 HO.out
 have k0:=hm4.o.m.c0
 rw [hk] at k0
 have k69:=hm4.o.m.cells.c69
 simp only [macV] at k69
 rw [hv,← HNN.out] at k69
 have hbl:b<w4.heap.size:=hm4.lt
 clear hm4 m4 f4 c64 c65 hv
 by_cases h2:r=4294967295
 ·subst h2
  go_wp2_with fail
  refine HPop.out.mono ?_
  rintro e w5 ⟨rfl,vo5,m5,f5,-,-⟩
  have c70:=m5.o.m.c70
  have cf:=m5.o.m.cells.fz
  have c68:=m5.o.m.cells.c68
  have c66:=m5.o.m.cells.c66
  have HM5:=Lib.hid m5
  have HF5:=Lib.hid f5
  clear m5 f5
  simp only [macV] at c70 c68 c66
  go_wp2_with fail
  have:=((HM5.out.setValue x).setSp p).setLife 2
  refine bodyPost_ret (v:=.tuple #[]) (results_none Tryz.results74 _ _ _) rfl ?_
  rw [← HQ.out]
  simp only [if_neg h1,↓reduceIte]
  exact ⟨rfl,vo5,vt4,this,(((HF4.out.trans HF5.out).trans (frB _ b vo5 M vt4 70 _)).trans (frB _ b vo5 M vt4 68 _)).trans (frB _ b vo5 M vt4 66 _)⟩
 have h2i:¬ ((r:Int)=4294967295):=by omega
 have h2b:((r:Int) == 4294967295)=false:=by simpa using h2i
 have HBk:=Lib.hid (HBk0.out w4.drew _ (HH4.out.fr (Fr.of (Below.refl _ _).drew _)))
 by_cases h3:bk=false
 ·subst h3
  go_wp2_with fail
  refine wp_region_held_drew (S:=(fun W=>W.cell? ⟨b,0,none⟩=some (.pointer (some ⟨mb,0,none⟩))∧W.cell? ⟨b,69,none⟩=some (.slice (some ⟨g,0,none⟩) (n+1) cap))) (by kernel_rfl) (⟨k0,k69⟩:w4.drew.cell? ⟨b,0,none⟩=some (.pointer (some ⟨mb,0,none⟩))∧w4.drew.cell? ⟨b,69,none⟩=some (.slice (some ⟨g,0,none⟩) (n+1) cap)) (fun hHeld=>?_)
  refine tk 0 hHeld ?_
  refine tk 1 hHeld ?_
  refine tk 2 hHeld ?_
  refine tk 3 hHeld ?_
  refine tk 4 hHeld ?_
  refine rd 5 _ fun K hK=>?_
  go_simp
  refine HBk.out.mono ?_
  rintro e w5 ⟨rfl,hb5⟩
  have hH5:=And.intro ((hb5.cell (p:=⟨b,0,none⟩) hbl).trans k0) ((hb5.cell (p:=⟨b,69,none⟩) hbl).trans k69)
  refine hK.out _ _ hH5 (fun _=>?_)
  clear hK K
  try simp only [Act.put,aT,aZ,aS]
  refine tk 6 hH5 ?_
  refine tk 7 hH5 ?_
  refine wpAnyH_take (i:=8) (v:=undef) (by simp only [List.getElem?_toArray,List.getElem?_cons_succ,List.getElem?_cons_zero,Option.some.injEq];rfl) (by kernel_rfl) (by kernel_rfl) (by kernel_rfl) (by exact fun _ _ _ h=>h) (Or.inr ⟨by rfl,rfl⟩) hH5 ?_
  try simp only [Act.put,aT,aZ,aS]
  refine wpAnyH_take (i:=9) (v:=undef) (by simp only [List.getElem?_toArray,List.getElem?_cons_succ,List.getElem?_cons_zero,Option.some.injEq];rfl) (by kernel_rfl) (by kernel_rfl) (by kernel_rfl) (by exact fun _ _ _ h=>h) (Or.inr ⟨by rfl,rfl⟩) hH5 ?_
  try simp only [Act.put,aT,aZ,aS]
  refine wpAnyH_take (i:=10) (v:=undef) (by simp only [List.getElem?_toArray,List.getElem?_cons_succ,List.getElem?_cons_zero,Option.some.injEq];rfl) (by kernel_rfl) (by kernel_rfl) (by kernel_rfl) (by exact fun _ _ _ h=>h) (Or.inr ⟨by rfl,rfl⟩) hH5 ?_
  try simp only [Act.put,aT,aZ,aS]
  refine wpAnyH_take (i:=11) (v:=undef) (by simp only [List.getElem?_toArray,List.getElem?_cons_succ,List.getElem?_cons_zero,Option.some.injEq];rfl) (by kernel_rfl) (by kernel_rfl) (by kernel_rfl) (by exact fun _ _ _ h=>h) (Or.inr ⟨by rfl,rfl⟩) hH5 ?_
  try simp only [Act.put,aT,aZ,aS]
  refine wpAnyH_take (i:=12) (v:=undef) (by simp only [List.getElem?_toArray,List.getElem?_cons_succ,List.getElem?_cons_zero,Option.some.injEq];rfl) (by kernel_rfl) (by kernel_rfl) (by kernel_rfl) (by exact fun _ _ _ h=>h) (Or.inr ⟨by rfl,rfl⟩) hH5 ?_
  try simp only [Act.put,aT,aZ,aS]
  refine wpAnyH_take (i:=13) (v:=undef) (by simp only [List.getElem?_toArray,List.getElem?_cons_succ,List.getElem?_cons_zero,Option.some.injEq];rfl) (by kernel_rfl) (by kernel_rfl) (by kernel_rfl) (by exact fun _ _ _ h=>h) (Or.inr ⟨by rfl,rfl⟩) hH5 ?_
  try simp only [Act.put,aT,aZ,aS]
  refine wpAnyH_take (i:=14) (v:=undef) (by simp only [List.getElem?_toArray,List.getElem?_cons_succ,List.getElem?_cons_zero,Option.some.injEq];rfl) (by kernel_rfl) (by kernel_rfl) (by kernel_rfl) (by exact fun _ _ _ h=>h) (Or.inr ⟨by rfl,rfl⟩) hH5 ?_
  try simp only [Act.put,aT,aZ,aS]
  refine wpAnyH_take (i:=15) (v:=undef) (by simp only [List.getElem?_toArray,List.getElem?_cons_succ,List.getElem?_cons_zero,Option.some.injEq];rfl) (by kernel_rfl) (by kernel_rfl) (by kernel_rfl) (by exact fun _ _ _ h=>h) (Or.inr ⟨by rfl,rfl⟩) hH5 ?_
  try simp only [Act.put,aT,aZ,aS]
  refine wpAnyH_take (i:=16) (v:=undef) (by simp only [List.getElem?_toArray,List.getElem?_cons_succ,List.getElem?_cons_zero,Option.some.injEq];rfl) (by kernel_rfl) (by kernel_rfl) (by kernel_rfl) (by exact fun _ _ _ h=>h) (Or.inr ⟨by rfl,rfl⟩) hH5 ?_
  try simp only [Act.put,aT,aZ,aS]
  refine wpAnyH_take (i:=17) (v:=undef) (by simp only [List.getElem?_toArray,List.getElem?_cons_succ,List.getElem?_cons_zero,Option.some.injEq];rfl) (by kernel_rfl) (by kernel_rfl) (by kernel_rfl) (by exact fun _ _ _ h=>h) (Or.inr ⟨by rfl,rfl⟩) hH5 ?_
  try simp only [Act.put,aT,aZ,aS]
  refine wpAnyH_take (i:=18) (v:=undef) (by simp only [List.getElem?_toArray,List.getElem?_cons_succ,List.getElem?_cons_zero,Option.some.injEq];rfl) (by kernel_rfl) (by kernel_rfl) (by kernel_rfl) (by exact fun _ _ _ h=>h) (Or.inr ⟨by rfl,rfl⟩) hH5 ?_
  try simp only [Act.put,aT,aZ,aS]
  refine wpAnyH_take (i:=19) (v:=undef) (by simp only [List.getElem?_toArray,List.getElem?_cons_succ,List.getElem?_cons_zero,Option.some.injEq];rfl) (by kernel_rfl) (by kernel_rfl) (by kernel_rfl) (by exact fun _ _ _ h=>h) (Or.inr ⟨by rfl,rfl⟩) hH5 ?_
  try simp only [Act.put,aT,aZ,aS]
  refine tk 20 hH5 ?_
  refine wpAnyH_done (by kernel_rfl) ?_ _
  have HB5:=Lib.hid (Bel.tr (Below.refl w4.heap.size w4).drew hb5)
  have HM5:=Lib.hid (HM4.out.below HB5.out)
  go_wp2_with fail
  rw [← HQ.out]
  simp only [if_neg h1,if_neg h2,true_or,↓reduceIte]
  exact ⟨rfl,rfl,vo,vt4,HM5.out.o.m,HM5.out.o.o,HM5.out.mem,HF4.out.trans (Fr.of HB5.out _)⟩
 have h3t:bk=true:=by simpa using h3
 subst h3t
 have hn1:((n+1:Nat):Int)=(n:Int)+1:=by omega
 by_cases h4:((n:Int)+1)<dd
 ·go_wp2_with fail
  first|(go_region_held3 (fun W=>W.cell? ⟨b,0,none⟩=some (.pointer (some ⟨mb,0,none⟩))∧W.cell? ⟨b,69,none⟩=some (.slice (some ⟨g,0,none⟩) (n+1) cap))
   (first|assumption|exact ⟨by assumption,by assumption⟩)
   (first
    | (go_at_call 120;refine HBk.out.mono ?_;rintro e w5 ⟨rfl,hb5⟩;have x1:=(hb5.cell (p:=⟨b,0,none⟩) hbl).trans k0;have x2:=(hb5.cell (p:=⟨b,69,none⟩) hbl).trans k69;have HB5:=Lib.hid (Bel.tr (Below.refl w4.heap.size w4).drew hb5);have HDp:=Lib.hid (HDp0.out w5 _ (HH4.out.fr (Fr.of HB5.out _)));have hbl5:b<w5.heap.size:=Nat.lt_of_lt_of_le hbl HB5.out.size;clear hb5)
    | (go_at_call 55; refine HDp.out.mono ?_; rintro e w6 ⟨rfl, hb6⟩; have y1 := (hb6.cell (p := ⟨b, 0, none⟩) hbl5).trans x1; have y2 := (hb6.cell (p := ⟨b, 69, none⟩) hbl5).trans x2; have HB6 := Lib.hid (Bel.tr HB5.out hb6); clear hb6))) | fail "held"
  have HM6:=Lib.hid (HM4.out.below HB6.out)
  go_wp2_with fail
  rw [← HQ.out]
  simp only [if_neg h1,if_neg h2,h4,or_true,↓reduceIte]
  exact ⟨rfl,rfl,vo,vt4,HM6.out.o.m,HM6.out.o.o,HM6.out.mem,HF4.out.trans (Fr.of HB6.out _)⟩
 go_wp2_with fail
 first|(go_region_held3 (fun W=>W.cell? ⟨b,0,none⟩=some (.pointer (some ⟨mb,0,none⟩))∧W.cell? ⟨b,69,none⟩=some (.slice (some ⟨g,0,none⟩) (n+1) cap))
  (first|assumption|exact ⟨by assumption,by assumption⟩)
  (first
   | (go_at_call 120;refine HBk.out.mono ?_;rintro e w5 ⟨rfl,hb5⟩;have x1:=(hb5.cell (p:=⟨b,0,none⟩) hbl).trans k0;have x2:=(hb5.cell (p:=⟨b,69,none⟩) hbl).trans k69;have HB5:=Lib.hid (Bel.tr (Below.refl w4.heap.size w4).drew hb5);have HDp:=Lib.hid (HDp0.out w5 _ (HH4.out.fr (Fr.of HB5.out _)));have hbl5:b<w5.heap.size:=Nat.lt_of_lt_of_le hbl HB5.out.size;clear hb5)
   | (go_at_call 55; refine HDp.out.mono ?_; rintro e w6 ⟨rfl, hb6⟩; have y1 := (hb6.cell (p := ⟨b, 0, none⟩) hbl5).trans x1; have y2 := (hb6.cell (p := ⟨b, 69, none⟩) hbl5).trans x2; have HB6 := Lib.hid (Bel.tr HB5.out hb6); clear hb6))) | fail "held"
 have HPr:=Lib.hid (HPr0.out w6 _ (HH4.out.fr (Fr.of HB6.out _)))
 clear x1 x2 k0 k69
 go_wp2_with fail
 refine HPr.out.mono ?_
 rintro e w7 ⟨rfl,hb7⟩
 obtain ⟨W8,hW8⟩:∃ W8,W8=w7.alloc (.cells #[.int .u32 p0,.int .u32 p1,.int .u32 p2,.int .i64 q] 126):=⟨_,rfl⟩
 have hb8:Below w4.heap.size w4 W8:=by rw [hW8];exact Bel.al (Bel.tr HB6.out hb7) _
 have hh8:W8.heap[w7.heap.size]?=some (.cells #[.int .u32 p0,.int .u32 p1,.int .u32 p2,.int .i64 q] 126 (0,0)):=by rw [hW8];exact heap_alloc_new _ _
 have d3:=cell_of_row W8 w7.heap.size 3 _ _ _ hh8
 have hl8:w7.heap.size<W8.heap.size:=(Array.getElem?_eq_some_iff.1 hh8).1
 have hm8:=HM4.out.below hb8
 have z0:=hm8.o.m.c0
 rw [hk] at z0
 have z69:=hm8.o.m.cells.c69
 simp only [macV] at z69
 obtain ⟨g8,cap8,hv8,-⟩:=hm8.top1 HO.out
 rw [hv8,← HNN.out] at z69
 have hbl8:b<W8.heap.size:=hm8.lt
 have HB8:=Lib.hid hb8
 have HDq:=Lib.hid (HDp0.out W8.drew _ ((HH4.out.fr (Fr.of hb8 _)).fr (Fr.of (Below.refl _ _).drew _)))
 have w1:IntKind.i64.wrap (((n:Int)+1) - dd)=((n:Int)+1) - dd:=IntWalk.i64_in _ (by omega)
 have w2:IntKind.i64.wrap (((n:Int)+1) - dd+q)=((n:Int)+1) - dd+q:=IntWalk.i64_in _ (by omega)
 clear hb7 hb8 hh8 hm8 hv8 y1 y2
 go_wp2_with fail
 rw [← hW8]
 clear hW8
 have h45:¬ (false=false→False):=fun h=>h rfl
 by_cases h5:64<((n:Int)+1) - dd+q
 all_goals
  first|(go_region_held3 (fun W=>W.cell? ⟨b,0,none⟩=some (.pointer (some ⟨mb,0,none⟩))∧W.cell? ⟨b,69,none⟩=some (.slice (some ⟨g8,0,none⟩) (n+1) cap8)∧W.cell? ⟨w7.heap.size,3,none⟩=some (.int .i64 q))
   (first|assumption|exact ⟨by assumption,by assumption,by assumption⟩)
   ((go_at_call 55; refine HDq.out.mono ?_; rintro e w9 ⟨rfl, hb9⟩; have y0 := (hb9.cell (p := ⟨b, 0, none⟩) hbl8).trans z0; have y69 := (hb9.cell (p := ⟨b, 69, none⟩) hbl8).trans z69; have y3 := (hb9.cell (p := ⟨w7.heap.size, 3, none⟩) hl8).trans d3; have HB9 := Lib.hid (Bel.tr (Bel.tr HB8.out (Below.refl _ _).drew) hb9); clear hb9))) | fail "held"
 ·have HM9:=Lib.hid (HM4.out.below HB9.out)
  go_wp2_with fail
  rw [← HQ.out]
  have h7:¬ (true=false ∨ ((n:Int)+1)<dd):=by rintro (e|e);cases e;omega
  simp only [if_neg h1,if_neg h2,if_neg h7,if_pos h5]
  exact ⟨rfl,rfl,vo,vt4,HM9.out.o.m,HM9.out.o.o,HM9.out.mem,HF4.out.trans (Fr.of HB9.out _)⟩
 ·have HM9:=Lib.hid (HM4.out.below HB9.out)
  have c67:=HM9.out.o.m.cells.c67
  have c68:=HM9.out.o.m.cells.c68
  have cf:=HM9.out.o.m.cells.fz
  simp only [macV] at c67 c68
  go_wp2_with fail
  go_end0
  have:=(HM9.out.setSp p).setPc r
  rw [← HQ.out]
  have h6:¬ 64<((n:Int)+1) - dd+q:=by omega
  have h7:¬ (true=false ∨ ((n:Int)+1)<dd):=by rintro (e|e);cases e;omega
  simp only [if_neg h1,if_neg h2,if_neg h6,if_neg h7]
  exact ⟨rfl,vo,vt4,this,((HF4.out.trans (Fr.of HB9.out _)).trans (frB _ b vo M vt4 68 _)).trans (frB _ b vo M vt4 67 _)⟩
end
section
variable {w:World} {p g c N:Nat} {vt:Value} {d:List Nat} {logs:Bool} {tou:List (Nat×Bool)}
theorem bits_mem (h:MemAt w p g c N vt d logs tou) {k:Nat} (hk8:8≤k) (hk16:k≤16) (hN:N=2 ^ k) :
 Calls Tryz.prog 117 #[.pointer (some ⟨p,0,none⟩)] w fun e w'=>e=.returned (.int .i64 k)∧Below w.heap.size w w':=by
 have HM:=Lib.hid (fun W (hW:Below w.heap.size w W)=>made_any (h.below hW))
 have HC:=Lib.hid (fun W (hW:Below w.heap.size w W)=>(cells379 (h.below hW).hp).1.1)
 have HSh:=Lib.hid (fun (j:Nat) (hj:j≤k)=>(show (IntKind.i64.wrap (2 ^ j)=((2 ^ j:Nat):Int))∧(j<k→2 ^ j<N)∧(j=k→2 ^ j=N) by
  have h1:2 ^ j≤2 ^ 16:=Nat.pow_le_pow_right (by decide) (by omega)
  have h2:((2:Int) ^ j)=((2 ^ j:Nat):Int):=by simp
  have h3:(2:Nat) ^ 16=65536:=by decide
  rw [h3] at h1
  refine ⟨by rw [h2];exact IntWalk.i64_in _ (by generalize 2 ^ j=z at *;omega),fun h=>by rw [hN];exact Nat.pow_lt_pow_right (by decide) h,fun h=>by rw [hN,h]⟩))
 clear h hN
 go_enter Tryz.func117,Tryz.ntmps117
 go_wp2_with fail
 go_loopw [3] (fun i wr=>∃ j:Nat,j≤k∧i=.int .i64 j∧Below w.heap.size w wr) (fun i _=>k - (intOf i).toNat)
 case atStart=>exact ⟨0,Nat.zero_le _,rfl,Below.refl _ _⟩
 case round =>
  obtain ⟨j,hj,rfl,hb⟩:=hrel
  have c0:=HC.out _ hb
  have HM1:=Lib.hid (HM.out _ (hb.drew))
  have HB:=Lib.hid hb
  obtain ⟨s1,s2,s3⟩:=HSh.out j hj
  clear hb
  by_cases hjk:j<k
  ·have s4:IntKind.i64.wrap (2 ^ j)<(N:Int):=by rw [s1];have:=s2 hjk;omega
   have s5:IntKind.i64.wrap ((j:Int)+1)=(j:Int)+1:=IntWalk.i64_in _ (by omega)
   clear s1 s2 s3
   go_wp2_with fail
   first|(go_region_held3 (fun W=>W.cell? ⟨p,0,none⟩=some (.slice (some ⟨g,0,none⟩) N c))
    (first|assumption)
    ((go_at_call 69; refine HM1.out.mono ?_; rintro e w3 ⟨rfl, rfl⟩))) | fail "held"
   go_wp2_with fail
   go_roundw
   case rel=>exact ⟨j+1,by omega,by go_num,HB.out.drew⟩
   case measure=>simp [intOf];omega
  ·have s4:¬ IntKind.i64.wrap (2 ^ j)<(N:Int):=by rw [s1];have:=s3 (by omega);omega
   have hjk2:j=k:=by omega
   subst hjk2
   clear s1 s2 s3
   go_wp2_with fail
   first|(go_region_held3 (fun W=>W.cell? ⟨p,0,none⟩=some (.slice (some ⟨g,0,none⟩) N c))
    (first|assumption)
    ((go_at_call 69; refine HM1.out.mono ?_; rintro e w3 ⟨rfl, rfl⟩))) | fail "held"
   go_wp2_with fail
   go_ret
   exact ⟨rfl,HB.out.drew⟩
end
def wF (p g:Nat) (vt vr:Value):Nat→Prop:=fun k=>memF p g vt k ∨ vr.ownBlock=some k
theorem row_mem_apart {w:World} {p g c N:Nat} {vt:Value} {d:List Nat} {logs:Bool} {tou:List (Nat×Bool)} {B n:Nat} {v:Value} {xs:List Value} (h:w.ownsRow B 25 1 v n xs) (hm:MemAt w p g c N vt d logs tou):∀ k,v.ownBlock=some k→¬ memF p g vt k:=by
 intro k hk hf
 rcases hf with rfl|rfl|hf
 ·exact not_row_of h hm.hp (by decide) hk
 ·exact own_apart (own_base h) hm.row (by decide) _ hk rfl
 ·exact own_apart (own_base h) hm.tr (by decide) _ hk hf
theorem wordsM_succ (d:List Nat) (sp k:Nat):wordsM d sp (k+1)=wordsM d sp k++[loadN d ((sp+4+4 * k) % 4294967296) 4]:=by
 unfold wordsM;rw [List.range_succ,List.map_append];rfl
theorem wordsT_succ (z sp k:Nat):wordsT z sp (k+1)=wordsT z sp k++touN z ((sp+4+4 * k) % 4294967296) 4 false:=by
 unfold wordsT;rw [List.range_succ,List.flatMap_append];simp
theorem wordsM_length (d:List Nat) (sp k:Nat):(wordsM d sp k).length=k:=by simp [wordsM]
theorem callFunc329 (args:Array Value) (W:World):(callFunc 118 args).run Tryz.prog W=.ok (.enter 118 args) W:=by simp [go_sem]
section
variable {w:World} {p g c N:Nat} {vt:Value} {d:List Nat} {logs:Bool} {tou:List (Nat×Bool)} {v:Value} {gr:List (Nat×Int)}
theorem words_no (hg:GateAt w v gr) (x sp:Nat) (hx:x<4294967296) (hn:grantedN gr x=none) (vm:Value) :
 Calls Tryz.prog 66 #[v,vm,.int .u32 sp,.int .u32 x] w fun e w'=>e=.returned (.tuple #[.slice none 0 0,.bool false])∧w=w':=by
 have HG:=Lib.hid (granted_any hg x hx)
 rw [hn] at HG
 clear hg hn
 go_enter Tryz.func66,Tryz.ntmps66
 go_wp2_with fail
 refine HG.out.mono ?_
 rintro e w1 ⟨rfl,rfl⟩
 go_wp2_with fail
 go_ret2
 exact ⟨rfl,rfl⟩
def WordsPost (p g c N:Nat) (vt:Value) (d:List Nat) (logs:Bool) (tou:List (Nat×Bool)) (sp n:Nat) (w:World) (e:Ending) (w':World):Prop :=
 ∃ vt' vw,e=.returned (.tuple #[vw,.bool true])∧w'.ownsRow w.heap.size 25 1 vw n (encN .u32 (wordsM d sp n))∧MemAt w' p g c N vt' d logs (touL logs tou (wordsT N sp n))∧Fr w w' (memF p g vt) (wF p g vt' vw)
theorem words_yes (hg:GateAt w v gr) (hm:MemAt w p g c N vt d logs tou) (x sp:Nat) (hx:x<4294967296) (hs:sp<4294967296) {n:Nat} (hn:grantedN gr x=some (n:Int)) (hn15:n≤15) :
 Calls Tryz.prog 66 #[v,.pointer (some ⟨p,0,none⟩),.int .u32 sp,.int .u32 x] w (WordsPost p g c N vt d logs tou sp n w):=by
 have HG:=Lib.hid (granted_any hg x hx)
 rw [hn] at HG
 obtain ⟨k,hk8,hk16,hNk⟩:=hm.k
 have HBi:=Lib.hid (bits_mem hm hk8 hk16 hNk)
 have HM0:=Lib.hid (fun W (hW:Below w.heap.size w W)=>hm.below hW)
 have hk0:((k:Int) == 0)=false:=by simp;omega
 obtain ⟨i25,hi25,hi250,hi251,hi252⟩:=info_parts inf25
 have hbs:=bs23_1
 have hmf:∀ (fn:Fn) (first cap:Array Value) (w:World),(Instr.makeFunc fn first cap).run Tryz.prog w=.ok (.func fn first cap) w:=fun _ _ _ _=>rfl
 have hcf:=callFunc329
 clear hg hn hm hNk
 go_enter Tryz.func66,Tryz.ntmps66
 go_wp2_with fail
 refine HG.out.mono ?_
 rintro e w1 ⟨rfl,rfl⟩
 go_wp2_with fail
 refine HBi.out.mono ?_
 rintro e w1 ⟨rfl,hb1⟩
 have HB1:=Lib.hid hb1
 clear hb1
 go_wp2_with fail
 go_loopw [13,14,31] (fun a bq i wr=>∃ (j:Nat) (vr vt':Value),j≤n∧i=.int .i64 j∧vr=a∧wr.ownsRow 0 25 1 vr j (encN .u32 (wordsM d sp j))∧(∀ k,vr.ownBlock=some k→w.heap.size≤k)∧MemAt wr p g c N vt' d logs (touL logs tou (wordsT N sp j))∧Fr w wr (memF p g vt) (wF p g vt' vr)) (fun a bq i _=>n - (intOf i).toNat)
 case atStart =>
  refine ⟨0,.slice none 0 0,vt,Nat.zero_le _,rfl,rfl,World.ownsRow_nil _ _ _ _,(fun k e=>by cases e),?_,?_⟩
  ·have:=HM0.out w1 HB1.out
   rw [show wordsT N sp 0=[] from rfl,touL_nil logs this.tl];exact this
  ·exact (Fr.of HB1.out _).mono (fun _ e=>e) (fun i e=>e.elim .inl (fun e=>by cases e))
 case round =>
  obtain ⟨j,vr,vt',hj,rfl,rfl,hrow,hlo,hmem,hfr⟩:=hrel
  have HLo:=Lib.hid hlo
  clear hlo
  by_cases hjn:j<n
  ·obtain ⟨va,vc,rfl,-⟩:=own_sl hrow
   have hnl:(j:Int)<(n:Int):=by omega
   have hw1:IntKind.i64.wrap ((j:Int)+1)=(j:Int)+1:=IntWalk.i64_in _ (by omega)
   obtain ⟨q,hq⟩:∃ q,q=(sp+4+4 * j) % 4294967296:=⟨_,rfl⟩
   have hqv:((sp:Int)+4+4 * (j:Int)) % 4294967296=(q:Int):=by omega
   have hq9:q<4294967296:=by omega
   have HL:=Lib.hid (load4_mem hmem hq9)
   have HQV:=Lib.hid hqv
   clear hqv
   have HR:=Lib.hid hrow
   have HF:=Lib.hid hfr
   have HAp:=Lib.hid (row_mem_apart hrow hmem)
   have HQ:=Lib.hid hq
   clear hrow hmem hfr hq
   go_wp2_with fail
   try rw [HQV.out]
   refine HL.out.mono ?_
   rintro e w2 ⟨e9,vt2,m2,f2⟩
   subst e9
   have HM2:=Lib.hid m2
   have HF2:=Lib.hid f2
   have HR2:=Lib.hid (own_fr HR.out f2 (fun g0 e e2=>HAp.out g0 e e2))
   have hsz:w.heap.size≤w2.heap.size:=Nat.le_trans HF.out.size f2.size
   have hL63:j+1≤65537:=by omega
   obtain ⟨y,hy⟩:∃ y,y=loadN d q 4:=⟨_,rfl⟩
   rw [← hy]
   have HY:=Lib.hid hy
   clear m2 f2 hy
   go_wp2_with ((with_reducible refine wpList_append1B (o:=⟨some 44,.call { callee:=.builtin .append,args:=#[.tmp 34,.tmp 43],argTypes:=#[23,23] },_,_,_,none⟩) rfl _ _ 23 rfl 25 i25 (.int .u32 0) 1 4 Tryz.underlying23 hi25 hi250 hi251 hi252 ?_ ?_ _ _ _ HR2.out _ _ w2.heap.size ?_ ?_ ?_ ?_ ?_ ?_ ?_ ?_);rfl;decide;rfl;rfl;rfl;rfl;(simp [Value.oneCell']);(unfold maxLen;omega);omega;intro g9 c9 w9 o9 r9 hl9;have HR9:=Lib.hid r9;have HO9:=Lib.hid o9;clear r9 o9)
   generalize hv9:Value.slice (some ⟨g9,0,none⟩) (j+1) c9=v9 at *
   go_roundw
   case rel =>
    have hF9:Fr w2 w9 (wF p g vt2 (.slice va j vc)) (wF p g vt2 v9):=Fr.grew (F:=wF p g vt2 (.slice va j vc)) (fun g e=>.inr e) HR9.out (F':=wF p g vt2 v9) (fun k hk=>hk.elim (fun e=>.inl (.inl e)) .inr)
    have hF2:Fr wr w2 (wF p g vt' (.slice va j vc)) (wF p g vt2 (.slice va j vc)):=HF2.out.mono (fun i e=>.inl e) (fun i e=>e.elim .inr (fun e=>.inl (.inr e)))
    refine ⟨j+1,v9,vt2,by omega,by go_num,rfl,?_,?_,?_,?_⟩
    ·rw [wordsM_succ,← HQ.out,← HY.out,encN_append];exact HO9.out
    ·intro k hk
     exact (HR9.out.2 k hk).elim (HLo.out k) (fun e=>Nat.le_trans hsz e)
    ·rw [wordsT_succ,← HQ.out,← touL_touL]
     exact HM2.out.fr (Fr.grew (F:=fun k=>(Value.slice va j vc).ownBlock=some k) (fun g e=>e) HR9.out (F':=fun k=>v9.ownBlock=some k) (fun k hk=>.inr hk)) (fun k hk e=>row_mem_apart HR2.out HM2.out k e hk)
    ·exact (HF.out.trans hF2).trans hF9
   case measure=>simp [intOf];omega
  ·have hjn2:j=n:=by omega
   subst hjn2
   have HR:=Lib.hid hrow
   have HM:=Lib.hid hmem
   have HF:=Lib.hid hfr
   clear hrow hmem hfr
   go_wp2_with fail
   go_ret2
   exact ⟨vt',vr,rfl,own_from HR.out HLo.out,HM.out,HF.out⟩
end
def WsAt (w:World) (v:Value) (ws:List (Nat×List Nat)):Prop :=
 ∃ a cap,v=.slice a ws.length cap∧ws.length≤cap∧cap≤maxLen∧(∀ x ∈ ws,x.1<4294967296) ∧
  (0<ws.length→∃ b off,∃ us:Nat→Value,a=some ⟨b,off,none⟩∧b<w.heap.size∧∀ i,i<ws.length→w.cell? ⟨b,off+i * 2,none⟩=some (.int .u32 (ws.getD i (0,[])).1)∧w.cell? ⟨b,off+i * 2+1,none⟩=some (us i)∧Bytes w (us i) (ws.getD i (0,[])).2)
theorem WsAt.below {w w':World} {v:Value} {ws:List (Nat×List Nat)} (h:WsAt w v ws) (hb:Below w.heap.size w w'):WsAt w' v ws:=by
 obtain ⟨a,cap,hv,h1,h2,h3,h4⟩:=h
 refine ⟨a,cap,hv,h1,h2,h3,fun h0=>?_⟩
 obtain ⟨b,off,us,ha,hl,hc⟩:=h4 h0
 exact ⟨b,off,us,ha,Nat.lt_of_lt_of_le hl hb.size,fun i hi=>⟨(hb.cell (p:=⟨b,off+i * 2,none⟩) hl).trans (hc i hi).1,(hb.cell (p:=⟨b,off+i * 2+1,none⟩) hl).trans (hc i hi).2.1,(hc i hi).2.2.below hb⟩⟩
def RepsAt (w:World) (v:Value) (rs:List Rep):Prop :=
 ∃ a cap,v=.slice a rs.length cap∧rs.length≤cap∧cap≤maxLen∧(∀ x ∈ rs,x.val<4294967296) ∧
  (0<rs.length→∃ b off,∃ us:Nat→Value,a=some ⟨b,off,none⟩∧b<w.heap.size∧∀ i,i<rs.length→w.cell? ⟨b,off+i * 2,none⟩=some (.int .u32 (rs.getD i ⟨0,[]⟩).val)∧w.cell? ⟨b,off+i * 2+1,none⟩=some (us i)∧WsAt w (us i) (rs.getD i ⟨0,[]⟩).ws)
theorem RepsAt.below {w w':World} {v:Value} {rs:List Rep} (h:RepsAt w v rs) (hb:Below w.heap.size w w'):RepsAt w' v rs:=by
 obtain ⟨a,cap,hv,h1,h2,h3,h4⟩:=h
 refine ⟨a,cap,hv,h1,h2,h3,fun h0=>?_⟩
 obtain ⟨b,off,us,ha,hl,hc⟩:=h4 h0
 exact ⟨b,off,us,ha,Nat.lt_of_lt_of_le hl hb.size,fun i hi=>⟨(hb.cell (p:=⟨b,off+i * 2,none⟩) hl).trans (hc i hi).1,(hb.cell (p:=⟨b,off+i * 2+1,none⟩) hl).trans (hc i hi).2.1,(hc i hi).2.2.below hb⟩⟩
def repFits (ws:List (Nat×List Nat)):Bool:=decide (ws.length≤16) && ws.all (fun x=>decide (x.2.length≤256))
theorem repFits_no {ws:List (Nat×List Nat)} {i:Nat} (hi:i<ws.length) (h:256<(ws.getD i (0,[])).2.length):repFits ws=false:=by
 unfold repFits
 rw [Bool.and_eq_false_iff]
 right
 rw [List.all_eq_false]
 refine ⟨ws.getD i (0,[]),?_,by simpa using h⟩
 rw [List.getD_eq_getElem?_getD,List.getElem?_eq_getElem hi]
 exact List.getElem_mem hi
theorem repFits_yes {ws:List (Nat×List Nat)} (h1:ws.length≤16) (h:∀ i,i<ws.length→(ws.getD i (0,[])).2.length≤256):repFits ws=true:=by
 unfold repFits
 rw [Bool.and_eq_true]
 refine ⟨by simpa using h1,?_⟩
 rw [List.all_eq_true]
 intro x hx
 obtain ⟨i,hi,rfl⟩:=List.getElem_of_mem hx
 have:=h i hi
 rw [List.getD_eq_getElem?_getD,List.getElem?_eq_getElem hi] at this
 simpa using this
section
variable {w:World}
theorem cells162 {w:World} {g:Nat} {a b:Value} (h:w.heap[g]?=some (.cells #[a,b] 69 (0,0))):w.cell? ⟨g,0,none⟩=some a∧w.cell? ⟨g,1,none⟩=some b:=⟨cell_of_row w g 0 _ _ _ h,cell_of_row w g 1 _ _ _ h⟩
theorem rfits_any {v:Value} {ws:List (Nat×List Nat)} (h:WsAt w v ws) (x:Int) :
 Calls Tryz.prog 26 #[.agg #[.int .u32 x,v]] w fun e w'=>e=.returned (.bool (repFits ws))∧Below w.heap.size w w':=by
 obtain ⟨a,cap,rfl,h1,h2,h3,h4⟩:=h
 obtain ⟨n,hn⟩:∃ n,n=ws.length:=⟨_,rfl⟩
 obtain ⟨W1,hW1⟩:∃ W1,W1=w.alloc (.cells #[.int .u32 x,.slice a n cap] 69):=⟨_,rfl⟩
 have hb1:Below w.heap.size w W1:=by rw [hW1];exact Bel.new _ _
 have hh1:W1.heap[w.heap.size]?=some (.cells #[.int .u32 x,.slice a n cap] 69 (0,0)):=by rw [hW1];exact heap_alloc_new _ _
 have k1:=(cells162 hh1).2
 have HN:=Lib.hid hn
 have H3:=Lib.hid h4
 have HB1:=Lib.hid hb1
 have HH1:=Lib.hid hh1
 rw [← hn] at h1
 rw [show (Value.slice a ws.length cap)=.slice a n cap from by rw [hn]]
 by_cases h16:16<n
 ·have h16i:(16:Int)<(n:Int):=by omega
  have e9:repFits ws=false:=by unfold repFits;rw [decide_eq_false (by omega)];rfl
  rw [e9]
  clear hn h4 hb1 hh1 h3 e9
  go_enter Tryz.func26,Tryz.ntmps26
  go_wp2_with fail
  go_ret
  exact ⟨rfl,Bel.new _ _⟩
 ·have h16i:¬ (16:Int)<(n:Int):=by omega
  have HYes:=Lib.hid (fun (hc:∀ i,i<n→(ws.getD i (0,[])).2.length≤256)=>repFits_yes (ws:=ws) (by omega) (by rw [← hn];exact hc))
  have HNo:=Lib.hid (fun (i:Nat) (hi:i<n) (hc:256<(ws.getD i (0,[])).2.length)=>repFits_no (ws:=ws) (by omega) hc)
  generalize repFits ws=res at *
  rw [← hn] at H3
  clear hn h4 hb1 hh1 h3
  go_enter Tryz.func26,Tryz.ntmps26
  go_wp2_with fail
  rw [← hW1]
  clear hW1
  go_loopw [12] (fun i wr=>∃ k:Nat,k≤n∧i=.int .i64 k∧(∀ j,j<k→(ws.getD j (0,[])).2.length≤256)∧Below w.heap.size w wr) (fun i _=>n - (intOf i).toNat)
  case atStart=>exact ⟨0,Nat.zero_le _,rfl,fun j hj=>absurd hj (by omega),HB1.out⟩
  case round =>
   obtain ⟨k,hk,rfl,hc,hb⟩:=hrel
   have HC:=Lib.hid hc
   by_cases hkn:k<n
   ·obtain ⟨b,off,us,rfl,hl,hcs⟩:=H3.out (by omega)
    obtain ⟨q0,q1,q2⟩:=hcs k hkn
    obtain ⟨a2,c2,hv2,-⟩:=q2.1
    have p0:=(hb.cell (p:=⟨b,off+k * 2,none⟩) hl).trans q0
    have p1:=(hb.cell (p:=⟨b,off+k * 2+1,none⟩) hl).trans q1
    rw [hv2] at p1
    obtain ⟨L,hL⟩:∃ L,L=(ws.getD k (0,[])).2.length:=⟨_,rfl⟩
    obtain ⟨A,hA⟩:∃ A,A=(ws.getD k (0,[])).1:=⟨_,rfl⟩
    rw [← hL] at p1
    rw [← hA] at p0
    have HL:=Lib.hid hL
    have HBB:=Lib.hid hb
    have hkl:(k:Int)<(n:Int):=by omega
    have hk0:(0:Int)≤(k:Int):=by omega
    have hw1:IntKind.i64.wrap ((k:Int)+1)=(k:Int)+1:=IntWalk.i64_in _ (by omega)
    clear hcs q0 q1 q2 hv2 hL hA hb hc
    by_cases hL6:256<L
    ·have hL6i:(256:Int)<(L:Int):=by omega
     go_wp2_with fail
     go_ret
     exact ⟨by rw [HNo.out k hkn (by rw [← HL.out];exact hL6)];rfl,Bel.al HBB.out _⟩
    ·have hL6i:¬ (256:Int)<(L:Int):=by omega
     go_wp2_with fail
     go_roundw
     case rel=>exact ⟨k+1,by omega,by go_num,fun j hj=>by
      rcases Nat.lt_or_ge j k with h|h
      ·exact HC.out j h
      ·have e:j=k:=by omega
       subst e
       rw [← HL.out];omega,Bel.al HBB.out _⟩
     case measure=>simp [intOf];omega
   ·have hkn2:k=n:=by omega
    subst hkn2
    have HBB:=Lib.hid hb
    clear hb hc
    go_wp2_with fail
    go_ret
    exact ⟨by rw [HYes.out HC.out];rfl,HBB.out⟩
end
theorem callFunc125 (args:Array Value) (W:World):(callFunc 25 args).run Tryz.prog W=.ok (.enter 25 args) W:=by simp [go_sem]
section
variable {w:World}
theorem unfit_any {v:Value} {ws:List (Nat×List Nat)} (h:WsAt w v ws) (x:Int) :
 Calls Tryz.prog 25 #[.agg #[.int .u32 x,v]] w fun e w'=>e=.returned (.bool (!repFits ws))∧Below w.heap.size w w':=by
 have HF:=Lib.hid (fun W (hW:Below w.heap.size w W)=>rfits_any (h.below hW) x)
 obtain ⟨a,cap,rfl,h1,h2,h3,h4⟩:=h
 generalize repFits ws=q at *
 generalize ws.length=n at *
 clear h4 h3
 go_enter Tryz.func25,Tryz.ntmps25
 go_wp2_with fail
 refine (HF.out _ (Bel.new _ _)).mono ?_
 rintro e w1 ⟨rfl,hb⟩
 have HB:=Lib.hid (Bel.tr (Bel.new _ _) hb)
 clear hb
 go_wp2_with fail
 go_ret
 exact ⟨rfl,HB.out⟩
def repsFit (rs:List Rep):Bool:=rs.all fun r=>repFits r.ws
theorem repsFit_no {rs:List Rep} {i:Nat} (hi:i<rs.length) (h:repFits (rs.getD i ⟨0,[]⟩).ws=false):repsFit rs=false:=by
 unfold repsFit
 rw [List.all_eq_false]
 refine ⟨rs.getD i ⟨0,[]⟩,?_,by simpa using h⟩
 rw [List.getD_eq_getElem?_getD,List.getElem?_eq_getElem hi]
 exact List.getElem_mem hi
theorem repsFit_yes {rs:List Rep} (h:∀ i,i<rs.length→repFits (rs.getD i ⟨0,[]⟩).ws=true):repsFit rs=true:=by
 unfold repsFit
 rw [List.all_eq_true]
 intro x hx
 obtain ⟨i,hi,rfl⟩:=List.getElem_of_mem hx
 have:=h i hi
 rw [List.getD_eq_getElem?_getD,List.getElem?_eq_getElem hi] at this
 simpa using this
def IdxPost (res:Bool) (e:Ending):Prop:=(res=true∧e=.returned (.int .i64 (-1))) ∨ (res=false∧∃ k:Nat,k≤9223372036854775807∧e=.returned (.int .i64 k))
theorem indexrep_any {v:Value} {rs:List Rep} (h:RepsAt w v rs) :
 Calls Tryz.prog 63 #[v,.func (.func 25) #[] #[]] w fun e w'=>IdxPost (repsFit rs) e∧Below w.heap.size w w':=by
 have HW:=Lib.hid (fun W (hW:Below w.heap.size w W)=>h.below hW)
 obtain ⟨a,cap,rfl,h1,h2,h3,h4⟩:=h
 obtain ⟨n,hn⟩:∃ n,n=rs.length:=⟨_,rfl⟩
 have HYes:=Lib.hid (fun (hc:∀ i,i<n→repFits (rs.getD i ⟨0,[]⟩).ws=true)=>repsFit_yes (rs:=rs) (by rw [← hn];exact hc))
 have HNo:=Lib.hid (fun (i:Nat) (hi:i<n) (hc:repFits (rs.getD i ⟨0,[]⟩).ws=false)=>repsFit_no (rs:=rs) (by omega) hc)
 have hcf:=callFunc125
 generalize repsFit rs=res at *
 rw [← hn] at h4 h1
 rw [show (Value.slice a rs.length cap)=.slice a n cap from by rw [hn]]
 have H4:=Lib.hid h4
 have h7:n≤9223372036854775807:=by unfold maxLen at h2;omega
 clear hn h4 h3 HW
 go_enter Tryz.func63,Tryz.ntmps63
 go_wp2_with fail
 go_loopw [8] (fun i wr=>∃ k:Nat,k≤n∧i=.int .i64 k∧(∀ j,j<k→repFits (rs.getD j ⟨0,[]⟩).ws=true)∧Below w.heap.size w wr) (fun i _=>n - (intOf i).toNat)
 case atStart=>exact ⟨0,Nat.zero_le _,rfl,fun j hj=>absurd hj (by omega),Below.refl _ _⟩
 case round =>
  obtain ⟨k,hk,rfl,hc,hb⟩:=hrel
  have HC:=Lib.hid hc
  by_cases hkn:k<n
  ·obtain ⟨b,off,us,rfl,hl,hcs⟩:=H4.out (by omega)
   obtain ⟨q0,q1,q2⟩:=hcs k hkn
   have p0:=(hb.cell (p:=⟨b,off+k * 2,none⟩) hl).trans q0
   have p1:=(hb.cell (p:=⟨b,off+k * 2+1,none⟩) hl).trans q1
   have HU:=Lib.hid (unfit_any (q2.below hb) ((rs.getD k ⟨0,[]⟩).val:Int))
   obtain ⟨a2,c2,hv2,-⟩:=q2
   rw [hv2] at p1 HU
   generalize (rs.getD k ⟨0,[]⟩).ws.length=L at *
   generalize ((rs.getD k ⟨0,[]⟩).val:Int)=A at *
   obtain ⟨qf,hqf⟩:∃ qf,qf=repFits (rs.getD k ⟨0,[]⟩).ws:=⟨_,rfl⟩
   rw [← hqf] at HU
   have HQF:=Lib.hid hqf
   have HBB:=Lib.hid hb
   have hkl:(k:Int)<(n:Int):=by omega
   have hk0:(0:Int)≤(k:Int):=by omega
   have hw1:IntKind.i64.wrap ((k:Int)+1)=(k:Int)+1:=IntWalk.i64_in _ (by omega)
   clear hcs q0 q1 hv2 hb hc hqf
   cases qf
   ·go_wp2_with fail
    refine HU.out.mono ?_
    rintro e w1 ⟨rfl,hb2⟩
    have HB2:=Lib.hid hb2
    clear hb2
    go_wp2_with fail
    go_ret
    exact ⟨.inr ⟨HNo.out k hkn HQF.out.symm,k,by omega,rfl⟩,Bel.tr HBB.out HB2.out⟩
   ·go_wp2_with fail
    refine HU.out.mono ?_
    rintro e w1 ⟨rfl,hb2⟩
    have HB2:=Lib.hid hb2
    clear hb2
    go_wp2_with fail
    go_roundw
    case rel=>exact ⟨k+1,by omega,by go_num,fun j hj=>by
     rcases Nat.lt_or_ge j k with h|h
     ·exact HC.out j h
     ·have e:j=k:=by omega
      subst e
      exact HQF.out.symm,Bel.tr HBB.out HB2.out⟩
    case measure=>simp [intOf];omega
  ·have hkn2:k=n:=by omega
   subst hkn2
   have HBB:=Lib.hid hb
   clear hb hc
   go_wp2_with fail
   go_ret
   exact ⟨.inl ⟨HYes.out HC.out,rfl⟩,HBB.out⟩
theorem containsrep_any {v:Value} {rs:List Rep} (h:RepsAt w v rs) :
 Calls Tryz.prog 24 #[v,.func (.func 25) #[] #[]] w fun e w'=>e=.returned (.bool (!repsFit rs))∧Below w.heap.size w w':=by
 have HI:=Lib.hid (indexrep_any h)
 obtain ⟨a,cap,rfl,h1,h2,h3,h4⟩:=h
 generalize rs.length=n at *
 generalize repsFit rs=q at *
 clear h4 h3
 go_enter Tryz.func24,Tryz.ntmps24
 go_wp2_with fail
 refine HI.out.mono ?_
 rintro e w1 ⟨⟨rfl,rfl⟩|⟨rfl,k,hk,rfl⟩,hb⟩
 ·have HB:=Lib.hid hb
  clear hb
  go_wp2_with fail
  go_ret
  exact ⟨rfl,HB.out⟩
 ·have HB:=Lib.hid hb
  have hk0:(0:Int)≤(k:Int):=by omega
  clear hb
  go_wp2_with fail
  go_ret
  exact ⟨rfl,HB.out⟩
end
def Out (F:Nat→Prop) (v:Value):Prop:=∀ b off n c,v=.slice (some ⟨b,off,none⟩) n c→0<n→¬ F b
theorem Fr.cell {w w':World} {F F':Nat→Prop} (h:Fr w w' F F') {p:Addr} (hl:p.block<w.heap.size) (hn:¬ F p.block):w'.cell? p=w.cell? p:=by
 unfold World.cell?
 rw [h.block p.block hl hn]
theorem Fr.notF {w w':World} {F F':Nat→Prop} (h:Fr w w' F F') {k:Nat} (hl:k<w.heap.size) (hn:¬ F k):¬ F' k:=fun e=>(h.foot k e).elim hn (fun e2=>by omega)
theorem Reads.fr {w w':World} {F F':Nat→Prop} {sz n:Nat} {v:Value} {cs:List Value} (h:Reads w sz v n cs) (hf:Fr w w' F F') (ho:Out F v):Reads w' sz v n cs∧Out F' v:=by
 obtain ⟨a,cap,hv,hl,hn,hm,ha,hp⟩:=h
 refine ⟨⟨a,cap,hv,hl,hn,hm,ha,fun h0=>?_⟩,fun b off n' c e h0=>?_⟩
 ·obtain ⟨b,off,e,hlt,hc⟩:=hp h0
  have hb:¬ F b:=ho b off n cap (by rw [hv,e]) h0
  exact ⟨b,off,e,Nat.lt_of_lt_of_le hlt hf.size,fun j hj=>(hf.cell (p:=⟨b,off+j,none⟩) hlt hb).trans (hc j hj)⟩
 ·have hb:=ho b off n' c e h0
  rw [hv] at e
  cases e
  obtain ⟨b',off',e',hlt,-⟩:=hp h0
  cases e'
  exact hf.notF hlt hb
theorem Bytes.fr {w w':World} {F F':Nat→Prop} {v:Value} {l:List Nat} (h:Bytes w v l) (hf:Fr w w' F F') (ho:Out F v):Bytes w' v l∧Out F' v :=
 ⟨⟨(h.1.fr hf ho).1,h.2⟩,(h.1.fr hf ho).2⟩
theorem Out.sub {F G:Nat→Prop} {v:Value} (h:Out F v) (hs:∀ k,G k→F k):Out G v:=fun b off n c e h0 hg=>h b off n c e h0 (hs _ hg)
def WsS (w:World) (F:Nat→Prop) (v:Value) (ws:List (Nat×List Nat)):Prop :=
 ∃ a cap,v=.slice a ws.length cap∧ws.length≤cap∧cap≤maxLen∧(∀ x ∈ ws,x.1<4294967296) ∧
  (0<ws.length→∃ b off,∃ us:Nat→Value,a=some ⟨b,off,none⟩∧b<w.heap.size∧¬ F b∧∀ i,i<ws.length→w.cell? ⟨b,off+i * 2,none⟩=some (.int .u32 (ws.getD i (0,[])).1)∧w.cell? ⟨b,off+i * 2+1,none⟩=some (us i)∧Bytes w (us i) (ws.getD i (0,[])).2∧Out F (us i))
section
variable {w w' w0:World} {F F' G:Nat→Prop} {v:Value} {ws:List (Nat×List Nat)} {rs:List Rep}
theorem WsS.at_ (h:WsS w F v ws):WsAt w v ws:=by
 obtain ⟨a,cap,hv,h1,h2,h3,h4⟩:=h
 refine ⟨a,cap,hv,h1,h2,h3,fun h0=>?_⟩
 obtain ⟨b,off,us,ha,hl,hb,hc⟩:=h4 h0
 exact ⟨b,off,us,ha,hl,fun i hi=>⟨(hc i hi).1,(hc i hi).2.1,(hc i hi).2.2.1⟩⟩
theorem WsS.fr (h:WsS w F v ws) (hf:Fr w w' F F'):WsS w' F' v ws:=by
 obtain ⟨a,cap,hv,h1,h2,h3,h4⟩:=h
 refine ⟨a,cap,hv,h1,h2,h3,fun h0=>?_⟩
 obtain ⟨b,off,us,ha,hl,hb,hc⟩:=h4 h0
 refine ⟨b,off,us,ha,Nat.lt_of_lt_of_le hl hf.size,hf.notF hl hb,fun i hi=>?_⟩
 obtain ⟨c1,c2,c3,c4⟩:=hc i hi
 exact ⟨(hf.cell (p:=⟨b,off+i * 2,none⟩) hl hb).trans c1,(hf.cell (p:=⟨b,off+i * 2+1,none⟩) hl hb).trans c2,(c3.fr hf c4).1,(c3.fr hf c4).2⟩
theorem WsS.sub (h:WsS w F v ws) (hs:∀ k,G k→F k):WsS w G v ws:=by
 obtain ⟨a,cap,hv,h1,h2,h3,h4⟩:=h
 refine ⟨a,cap,hv,h1,h2,h3,fun h0=>?_⟩
 obtain ⟨b,off,us,ha,hl,hb,hc⟩:=h4 h0
 exact ⟨b,off,us,ha,hl,fun e=>hb (hs b e),fun i hi=>⟨(hc i hi).1,(hc i hi).2.1,(hc i hi).2.2.1,(hc i hi).2.2.2.sub hs⟩⟩
def RepsS (w:World) (F:Nat→Prop) (v:Value) (rs:List Rep):Prop :=
 ∃ a cap,v=.slice a rs.length cap∧rs.length≤cap∧cap≤maxLen∧(∀ x ∈ rs,x.val<4294967296) ∧
  (0<rs.length→∃ b off,∃ us:Nat→Value,a=some ⟨b,off,none⟩∧b<w.heap.size∧¬ F b∧∀ i,i<rs.length→w.cell? ⟨b,off+i * 2,none⟩=some (.int .u32 (rs.getD i ⟨0,[]⟩).val)∧w.cell? ⟨b,off+i * 2+1,none⟩=some (us i)∧WsS w F (us i) (rs.getD i ⟨0,[]⟩).ws)
theorem RepsS.at_ (h:RepsS w F v rs):RepsAt w v rs:=by
 obtain ⟨a,cap,hv,h1,h2,h3,h4⟩:=h
 refine ⟨a,cap,hv,h1,h2,h3,fun h0=>?_⟩
 obtain ⟨b,off,us,ha,hl,hb,hc⟩:=h4 h0
 exact ⟨b,off,us,ha,hl,fun i hi=>⟨(hc i hi).1,(hc i hi).2.1,(hc i hi).2.2.at_⟩⟩
theorem RepsS.fr (h:RepsS w F v rs) (hf:Fr w w' F F'):RepsS w' F' v rs:=by
 obtain ⟨a,cap,hv,h1,h2,h3,h4⟩:=h
 refine ⟨a,cap,hv,h1,h2,h3,fun h0=>?_⟩
 obtain ⟨b,off,us,ha,hl,hb,hc⟩:=h4 h0
 refine ⟨b,off,us,ha,Nat.lt_of_lt_of_le hl hf.size,hf.notF hl hb,fun i hi=>?_⟩
 obtain ⟨c1,c2,c3⟩:=hc i hi
 exact ⟨(hf.cell (p:=⟨b,off+i * 2,none⟩) hl hb).trans c1,(hf.cell (p:=⟨b,off+i * 2+1,none⟩) hl hb).trans c2,c3.fr hf⟩
theorem RepsS.sub (h:RepsS w F v rs) (hs:∀ k,G k→F k):RepsS w G v rs:=by
 obtain ⟨a,cap,hv,h1,h2,h3,h4⟩:=h
 refine ⟨a,cap,hv,h1,h2,h3,fun h0=>?_⟩
 obtain ⟨b,off,us,ha,hl,hb,hc⟩:=h4 h0
 exact ⟨b,off,us,ha,hl,fun e=>hb (hs b e),fun i hi=>⟨(hc i hi).1,(hc i hi).2.1,(hc i hi).2.2.sub hs⟩⟩
theorem RepsS.nil (w:World) (F:Nat→Prop):RepsS w F (.slice none 0 0) []:=⟨none,0,rfl,Nat.le_refl _,Nat.zero_le _,by simp,by simp⟩
theorem RepsS.vals (h:RepsS w F v rs):∀ r ∈ rs,r.val<4294967296:=by
 obtain ⟨_,_,_,_,_,h,_⟩:=h
 exact h
theorem Out.home (hh:Home w0 w F) {sz n:Nat} {cs:List Value} (h:Reads w0 sz v n cs):Out F v:=fun b off n' c e h0 hF=>by
 obtain ⟨a,cap,hv,hl,hn,hm,ha,hp⟩:=h
 rw [hv] at e
 cases e
 obtain ⟨b',off',e',hlt,-⟩:=hp h0
 cases e'
 have:=hh.f _ hF
 omega
theorem WsS.home (hh:Home w0 w F) (h:WsAt w0 v ws):WsS w F v ws:=by
 obtain ⟨a,cap,hv,h1,h2,h3,h4⟩:=h
 refine ⟨a,cap,hv,h1,h2,h3,fun h0=>?_⟩
 obtain ⟨b,off,us,ha,hl,hc⟩:=h4 h0
 refine ⟨b,off,us,ha,Nat.lt_of_lt_of_le hl hh.b.size,fun e=>by have:=hh.f b e;omega,fun i hi=>?_⟩
 obtain ⟨c1,c2,c3⟩:=hc i hi
 exact ⟨(hh.b.cell (p:=⟨b,off+i * 2,none⟩) hl).trans c1,(hh.b.cell (p:=⟨b,off+i * 2+1,none⟩) hl).trans c2,c3.below hh.b,Out.home hh c3.1⟩
theorem RepsS.home (hh:Home w0 w F) (h:RepsAt w0 v rs):RepsS w F v rs:=by
 obtain ⟨a,cap,hv,h1,h2,h3,h4⟩:=h
 refine ⟨a,cap,hv,h1,h2,h3,fun h0=>?_⟩
 obtain ⟨b,off,us,ha,hl,hc⟩:=h4 h0
 refine ⟨b,off,us,ha,Nat.lt_of_lt_of_le hl hh.b.size,fun e=>by have:=hh.f b e;omega,fun i hi=>?_⟩
 obtain ⟨c1,c2,c3⟩:=hc i hi
 exact ⟨(hh.b.cell (p:=⟨b,off+i * 2,none⟩) hl).trans c1,(hh.b.cell (p:=⟨b,off+i * 2+1,none⟩) hl).trans c2,WsS.home hh c3⟩
theorem RepsS.tail {a:Addr} {n cap:Nat} {r:Rep} (h:RepsS w F (.slice (some a) n cap) (r :: rs)) :
 ∃ rb ro us0,a=⟨rb,ro,none⟩∧n=rs.length+1∧n≤cap∧cap≤maxLen∧(rb<w.heap.size∧¬ F rb)∧r.val<4294967296∧w.cell? ⟨rb,ro,none⟩=some (.int .u32 r.val)∧w.cell? ⟨rb,ro+1,none⟩=some us0∧WsS w F us0 r.ws ∧
  RepsS w F (.slice (some ⟨rb,ro+2,none⟩) rs.length (cap - 1)) rs:=by
 obtain ⟨a',cap',hv,h1,h2,h3,h4⟩:=h
 cases hv
 obtain ⟨rb,ro,us,ha,hl,hb,hc⟩:=h4 (by simp)
 have h00:=hc 0 (by simp)
 refine ⟨rb,ro,us 0,by injection ha,by simp,h1,h2,⟨hl,hb⟩,h3 r (by simp),by simpa using h00.1,by simpa using h00.2.1,by simpa using h00.2.2,?_⟩
 simp only [List.length_cons] at h1
 refine ⟨some ⟨rb,ro+2,none⟩,cap - 1,rfl,by omega,by omega,fun x hx=>h3 x (by simp [hx]),fun h0=>⟨rb,ro+2,fun i=>us (i+1),rfl,hl,hb,fun i hi=>?_⟩⟩
 have:=hc (i+1) (by simpa using hi)
 have e1:ro+(i+1) * 2=ro+2+i * 2:=by omega
 rw [e1] at this
 simpa using this
end
theorem applyN_snoc (d:List Nat) (l:List (Nat×List Nat)) (x:Nat×List Nat):applyN d (l++[x])=writeN (applyN d l) x.1 x.2:=by
 unfold applyN;rw [List.foldl_append];rfl
theorem applyT_snoc (z:Nat) (l:List (Nat×List Nat)) (x:Nat×List Nat):applyT z (l++[x])=applyT z l++touN z x.1 x.2.length true:=by
 unfold applyT;rw [List.flatMap_append];simp
theorem take_snoc {α:Type} [Inhabited α] (l:List α) (k:Nat) (hk:k<l.length) (d:α):l.take (k+1)=l.take k++[l.getD k d]:=by
 rw [List.take_add_one,List.getElem?_eq_getElem hk,List.getD_eq_getElem?_getD,List.getElem?_eq_getElem hk];rfl
section
variable {w0 w:World} {p g c N:Nat} {vt:Value} {d:List Nat} {logs:Bool} {tou:List (Nat×Bool)} {v:Value} {gr:List (Nat×Int)}
def ApplyPost (p g c N:Nat) (vt:Value) (d:List Nat) (logs:Bool) (tou:List (Nat×Bool)) (ws:List (Nat×List Nat)) (w:World) (e:Ending) (w':World):Prop :=
 e=.returned (.int .i64 0)∧∃ vt',MemAt w' p g c N vt' (applyN d ws) logs (touL logs tou (applyT N ws))∧Fr w w' (memF p g vt) (memF p g vt')
theorem apply_any' (hg:GateAt w v gr) (hm:MemAt w p g c N vt d logs tou) {vw:Value} {ws:List (Nat×List Nat)} (hw:WsS w (memF p g vt) vw ws) (hf:repFits ws=true) (x:Int) :
 Calls Tryz.prog 152 #[v,.pointer (some ⟨p,0,none⟩),.agg #[.int .u32 x,vw]] w (ApplyPost p g c N vt d logs tou ws w):=by
 have hww:=hw.at_
 have HG:=Lib.hid (fun W (hW:Below w.heap.size w W)=>gmade_any (hg.below hW))
 obtain ⟨k,hk8,hk16,hNk⟩:=hm.k
 have HBi:=Lib.hid (fun W (hW:Below w.heap.size w W)=>bits_mem (hm.below hW) hk8 hk16 hNk)
 have HFi:=Lib.hid (fun W (hW:Below w.heap.size w W)=>rfits_any (hww.below hW) x)
 rw [hf] at HFi
 have HM0:=Lib.hid (fun W (hW:Below w.heap.size w W)=>hm.below hW)
 have hk0:((k:Int) == 0)=false:=by simp;omega
 obtain ⟨a,cap,rfl,h1,h2,h3,h4⟩:=hw
 have hl16:ws.length≤16∧∀ i,i<ws.length→(ws.getD i (0,[])).2.length≤256:=by
  unfold repFits at hf
  rw [Bool.and_eq_true,List.all_eq_true] at hf
  refine ⟨by simpa using hf.1,fun i hi=>?_⟩
  have:=hf.2 (ws.getD i (0,[])) (by rw [List.getD_eq_getElem?_getD,List.getElem?_eq_getElem hi];exact List.getElem_mem hi)
  simpa using this
 have h3i:∀ i,i<ws.length→(ws.getD i (0,[])).1<4294967296:=fun i hi=>h3 _ (by rw [List.getD_eq_getElem?_getD,List.getElem?_eq_getElem hi];exact List.getElem_mem hi)
 obtain ⟨n,hn⟩:∃ n,n=ws.length:=⟨_,rfl⟩
 rw [show (Value.slice a ws.length cap)=.slice a n cap from by rw [hn]] at *
 have HN:=Lib.hid hn
 rw [← hn] at h1 h4 hl16 h3i
 have H4:=Lib.hid h4
 have H3:=Lib.hid h3i
 have H16:=Lib.hid hl16
 obtain ⟨W1,hW1⟩:∃ W1,W1=w.alloc (.cells #[.int .u32 x,.slice a n cap] 69):=⟨_,rfl⟩
 have hb1:Below w.heap.size w W1:=by rw [hW1];exact Bel.new _ _
 have hh1:W1.heap[w.heap.size]?=some (.cells #[.int .u32 x,.slice a n cap] 69 (0,0)):=by rw [hW1];exact heap_alloc_new _ _
 have HB1:=Lib.hid hb1
 have HH1:=Lib.hid hh1
 have hl1:w.heap.size<W1.heap.size:=(Array.getElem?_eq_some_iff.1 hh1).1
 clear hg hm hf hww h3 h4 hl16 h3i hn hb1 hNk
 go_enter Tryz.func152,Tryz.ntmps152
 go_wp2_with fail
 rw [← hW1]
 clear hW1
 refine (HG.out W1 HB1.out).mono ?_
 rintro e w2 ⟨rfl,rfl⟩
 go_wp2_with fail
 refine (HBi.out W1 HB1.out).mono ?_
 rintro e w2 ⟨rfl,hb2⟩
 have k2:=(hb2.block _ hl1).trans HH1.out
 obtain ⟨q0,q1⟩:=cells162 k2
 have hB2:=Bel.tr HB1.out hb2
 have HFi2:=Lib.hid (HFi.out w2 hB2)
 have HB2:=Lib.hid hB2
 have HK2:=Lib.hid k2
 have hl2:w.heap.size<w2.heap.size:=Nat.lt_of_lt_of_le hl1 hb2.size
 clear hb2 hB2 k2 hh1
 go_wp2_with fail
 refine HFi2.out.mono ?_
 rintro e w3 ⟨rfl,hb3⟩
 obtain ⟨r0,r1⟩:=cells162 ((hb3.block _ hl2).trans HK2.out)
 have HB3:=Lib.hid (Bel.tr HB2.out hb3)
 clear hb3 q0 q1
 go_wp2_with fail
 go_loopw [24] (fun i wr=>∃ (j:Nat) (vt':Value),j≤n∧i=.int .i64 j∧MemAt wr p g c N vt' (applyN d (ws.take j)) logs (touL logs tou (applyT N (ws.take j)))∧Fr w wr (memF p g vt) (memF p g vt')) (fun i _=>n - (intOf i).toNat)
 case atStart =>
  refine ⟨0,vt,Nat.zero_le _,rfl,?_,Fr.of HB3.out _⟩
  have:=HM0.out w3 HB3.out
  rw [List.take_zero,show applyT N []=[] from rfl,touL_nil logs this.tl];exact this
 case round =>
  obtain ⟨j,vt',hj,rfl,hmem,hfr⟩:=hrel
  by_cases hjn:j<n
  ·obtain ⟨b,off,us,rfl,hl,hnb,hcs⟩:=H4.out (by omega)
   obtain ⟨q0,q1,q2a,q2b⟩:=hcs j hjn
   have p0:=(hfr.cell (p:=⟨b,off+j * 2,none⟩) hl hnb).trans q0
   have p1:=(hfr.cell (p:=⟨b,off+j * 2+1,none⟩) hl hnb).trans q1
   obtain ⟨q2,q2o⟩:=q2a.fr hfr q2b
   clear q2a q2b
   obtain ⟨y,hy⟩:∃ y,y=ws.getD j (0,[]):=⟨_,rfl⟩
   have hy3:=H3.out j hjn
   have hy6:=H16.out.2 j hjn
   rw [← hy] at p0 q2 hy3 hy6
   have hbw:=Bel.new wr (.cells #[.int .u32 y.1,us j] 146)
   have HWr:=Lib.hid (write_mem (hmem.below hbw) hy3 (q2.below hbw) (by omega) (fun h0 x hx=>by
    obtain ⟨⟨va,vc,hv,-,-,-,-,hvp⟩,-⟩:=q2
    obtain ⟨bb,oo,e,hbb,-⟩:=hvp h0
    have e2:x=bb:=by rw [hv,e] at hx;simpa [Value.ownBlock] using hx.symm
    subst e2
    have hno:=q2o x oo _ vc (by rw [hv,e]) h0
    exact ⟨fun e=>hno (.inl e),fun e=>hno (.inr (.inl e)),fun e=>hno (.inr (.inr e))⟩))
   obtain ⟨va,vc,hv,-⟩:=q2.1
   rw [hv] at p1 HWr
   obtain ⟨L,hL⟩:∃ L,L=y.2.length:=⟨_,rfl⟩
   rw [← hL] at p1
   rw [show (Value.slice va y.2.length vc)=.slice va L vc from by rw [hL]] at HWr
   have HF:=Lib.hid hfr
   have HY:=Lib.hid hy
   have hn16:=H16.out.1
   have hkl:(j:Int)<(n:Int):=by omega
   have hk0:(0:Int)≤(j:Int):=by omega
   have hw1:IntKind.i64.wrap ((j:Int)+1)=(j:Int)+1:=IntWalk.i64_in _ (by omega)
   have HLn:=Lib.hid HN.out
   clear hcs q0 q1 q2 q2o hv hy hL hmem hfr hbw hy6
   go_wp2_with fail
   refine HWr.out.mono ?_
   rintro e w9 ⟨rfl,vt9,m9,f9⟩
   have HM9:=Lib.hid m9
   have HF9:=Lib.hid f9
   clear m9 f9
   go_wp2_with fail
   go_roundw
   case rel =>
    refine ⟨j+1,vt9,by omega,by go_num,?_,(HF.out.trans (Fr.of (Bel.new _ _) _)).trans HF9.out⟩
    rw [take_snoc ws j (by have:=HN.out;omega) (0,[]),← HY.out,applyN_snoc,applyT_snoc,← touL_touL]
    exact HM9.out
   case measure=>simp [intOf];omega
  ·have hjn2:j=n:=by omega
   subst hjn2
   have HM:=Lib.hid hmem
   have HF:=Lib.hid hfr
   clear hmem hfr
   go_wp2_with fail
   go_ret
   have e9:ws.take j=ws:=by rw [List.take_of_length_le (by have:=HN.out;omega)]
   rw [e9] at HM
   exact ⟨rfl,vt',HM.out,HF.out⟩
end
section
variable {P:Program}
def outs (P:Program) (o:Oper) (ρ:Operand→Value) (W:World) (R:Value→World→Prop):Prop :=
 match (execOp ρ o).run P W with
 | .ok (.value v) W'=>R v W'
 | .ok .skip W'=>R undef W'
 | .ok (.enter f args) W'=>Calls P f args W' fun e W''=>∃ v,e=.returned v∧R v W''
 | _=>False
theorem outs_wp {o:Oper} {a:Act} {W:World} {R:Value→World→Prop} {K:Act→World→Prop} {Q:Exit→Act→World→Prop} (h:outs P o a.eval W R)
 (hK:∀ v W',R v W'→K (a.put o.dst v) W'):o.wp P a W K Q:=by
 unfold outs at h
 unfold Oper.wp
 generalize (execOp a.eval o).run P W=r at *
 cases r with
 | ok n w' =>
  cases n with
  | value v=>exact hK _ _ h
  | skip=>exact hK _ _ h
  | enter f args =>
   refine Calls.mono h ?_
   rintro e w'' ⟨v,rfl,hr⟩
   exact hK _ _ hr
  | _=>exact False.elim h
 | halt x w'=>exact False.elim h
def freeB (ops:Array Oper):Bool:=(List.range ops.size).all fun i=>match ops[i]? with
 | none=>true
 | some oi=>oi.guard.isNone && ((match oi.op with|.select _ _=>false|_=>true) && (oi.after.all (fun e=>!Region.binds .any e || decide (e.on<i)) &&
  (List.range ops.size).all fun j=>match ops[j]? with
   | none=>true
   | some oj=>match oj.dst with
    | none=>true
    | some t=>(!(oi.looksAt ops).contains t || oi.after.any (fun e=>Region.binds .any e && e.on == j)) && (i == j || oi.dst != some t)))
structure FreeOk (ops:Array Oper):Prop where
 g:∀ (i:Nat) (oi:Oper),ops[i]?=some oi→oi.guard=none
 s:∀ (i:Nat) (oi:Oper),ops[i]?=some oi→∀ cs b,oi.op≠.select cs b
 b:∀ (i:Nat) (oi:Oper),ops[i]?=some oi→∀ e ∈ oi.after,Region.binds .any e=true→e.on<i
 d:∀ (i:Nat) (oi:Oper) (j:Nat) (oj:Oper) (t:Tmp),ops[i]?=some oi→ops[j]?=some oj→oj.dst=some t→t ∈ oi.looksAt ops→∃ e ∈ oi.after,Region.binds .any e=true∧e.on=j
 u:∀ (i:Nat) (oi:Oper) (j:Nat) (oj:Oper) (t:Tmp),ops[i]?=some oi→ops[j]?=some oj→oi.dst=some t→oj.dst=some t→i=j
theorem freeOk {ops:Array Oper} (h:freeB ops=true):FreeOk ops:=by
 have key:∀ (i:Nat) (oi:Oper),ops[i]?=some oi→_:=fun i oi hi=>by
  have hlt:i<ops.size:=(Array.getElem?_eq_some_iff.1 hi).1
  have h1:=List.all_eq_true.1 h i (List.mem_range.2 hlt)
  rw [hi] at h1
  exact h1
 have k2:∀ (i:Nat) (oi:Oper) (j:Nat) (oj:Oper) (t:Tmp),ops[i]?=some oi→ops[j]?=some oj→oj.dst=some t →
  ((!(oi.looksAt ops).contains t || oi.after.any (fun e=>Region.binds .any e && e.on == j)) && (i == j || oi.dst != some t))=true:=fun i oi j oj t hi hj ht=>by
  have h1:=key i oi hi
  simp only [Bool.and_eq_true] at h1
  have hlt:j<ops.size:=(Array.getElem?_eq_some_iff.1 hj).1
  have h2:=List.all_eq_true.1 h1.2.2.2 j (List.mem_range.2 hlt)
  rw [hj] at h2
  simp only [ht] at h2
  exact h2
 refine ⟨fun i oi hi=>?_,fun i oi hi cs b e=>?_,fun i oi hi e he hb=>?_,fun i oi j oj t hi hj ht hl=>?_,fun i oi j oj t hi hj h1 h2=>?_⟩
 ·have h1:=key i oi hi
  simp only [Bool.and_eq_true] at h1
  simpa using h1.1
 ·have h1:=key i oi hi
  simp only [Bool.and_eq_true] at h1
  have h2:=h1.2.1
  rw [e] at h2
  cases h2
 ·have h1:=key i oi hi
  simp only [Bool.and_eq_true] at h1
  have h2:=Array.all_eq_true_iff_forall_mem.1 h1.2.2.1 e he
  simpa [hb] using h2
 ·have h1:=k2 i oi j oj t hi hj ht
  rw [Bool.and_eq_true] at h1
  have h2:=h1.1
  rw [show (oi.looksAt ops).contains t=true from by simpa using hl] at h2
  simp only [Bool.not_true,Bool.false_or,Array.any_eq_true',Bool.and_eq_true,beq_iff_eq] at h2
  obtain ⟨e,he,hb,ho⟩:=h2
  exact ⟨e,he,hb,ho⟩
 ·have h3:=k2 i oi j oj t hi hj h2
  rw [Bool.and_eq_true] at h3
  have h4:=h3.2
  rw [h1] at h4
  simpa using h4
def putAll:Act→List Oper→Nat→(Nat→Value)→Act
 | a,[],_,_=>a
 | a,o :: l,k,V=>putAll (a.put o.dst (V k)) l (k+1) V
theorem put_size (a:Act) (d:Option Tmp) (v:Value):(a.put d v).tmps.size=a.tmps.size:=by cases d <;> simp [Act.put]
theorem put_defers (a:Act) (d:Option Tmp) (v:Value):(a.put d v).defers=a.defers:=by cases d <;> rfl
theorem put_get_ne (a:Act) {d:Option Tmp} (v:Value) {t:Tmp} (h:d≠some t):(a.put d v).tmps[t]?=a.tmps[t]?:=by
 cases d with
 | none=>rfl
 | some e=>exact Array.getElem?_setIfInBounds_ne (fun h'=>h (by rw [h']))
theorem put_get (a:Act) (v:Value) {t:Tmp} (h:t<a.tmps.size):(a.put (some t) v).tmps[t]?=some v:=by simp [Act.put,h]
theorem putAll_defers (V:Nat→Value):∀ (l:List Oper) (a:Act) (k:Nat),(putAll a l k V).defers=a.defers
 | [],a,k=>rfl
 | o :: l,a,k=>by rw [putAll,putAll_defers V l,put_defers]
theorem putAll_out (V:Nat→Value) {t:Tmp}:∀ (l:List Oper) (a:Act) (k:Nat),(∀ o ∈ l,o.dst≠some t)→(putAll a l k V).tmps[t]?=a.tmps[t]?
 | [],a,k,h=>rfl
 | o :: l,a,k,h=>by rw [putAll,putAll_out V l _ _ (fun o' ho=>h o' (List.mem_cons_of_mem _ ho)),put_get_ne _ _ (h o (List.mem_cons_self ..))]
theorem putAll_at (V:Nat→Value) {t:Tmp} {o:Oper} (ht:o.dst=some t):∀ (l:List Oper) (a:Act) (k j:Nat),t<a.tmps.size→l[j]?=some o→(∀ j' o',l[j']?=some o'→o'.dst=some t→j'=j) →
 (putAll a l k V).tmps[t]?=some (V (k+j))
 | [],a,k,j,hs,hj,hu=>by simp at hj
 | o' :: l,a,k,0,hs,hj,hu=>by
  obtain rfl:o'=o:=by simpa using hj
  rw [putAll,putAll_out V l _ _ (fun o2 ho e=>by
   obtain ⟨j2,hj2,rfl⟩:=List.getElem_of_mem ho
   have:=hu (j2+1) l[j2] (by simp [hj2]) e
   omega),ht,put_get _ _ hs]
  rfl
 | o' :: l,a,k,j+1,hs,hj,hu=>by
  rw [putAll,putAll_at V ht l _ (k+1) j (by rw [put_size];exact hs) (by simpa using hj) (fun j' o2 h1 h2=>by
   have:=hu (j'+1) o2 (by simpa using h1) h2
   omega),show k+1+j=k+(j+1) from by omega]
theorem lget_ne {l:Array Bool} {i j:Nat} (b d:Bool) (h:i≠j):(l.setIfInBounds i b).getD j d=l.getD j d:=by
 simp [Array.getD_eq_getD_getElem?,Array.getElem?_setIfInBounds_ne h]
theorem lget_eq {l:Array Bool} {i:Nat} (b d:Bool) (h:i<l.size):(l.setIfInBounds i b).getD i d=b:=by
 simp [Array.getD_eq_getD_getElem?,h]
theorem lget_any {l:Array Bool} {i:Nat} (d d':Bool) (h:i<l.size):l.getD i d=l.getD i d':=by
 simp [Array.getD_eq_getD_getElem?,h]
theorem getD_replicate_in {n j:Nat} {d:Bool} (h:j<n):(Array.replicate n false).getD j d=false:=by
 simp [Array.getD_eq_getD_getElem?,h]
def unl (n:Nat) (listed:Array Bool):Nat:=((List.range n).filter fun i=>!listed.getD i true).length
theorem unl_lt {n i:Nat} {listed:Array Bool} (hi:i<n) (hl:listed.size=n) (h:listed.getD i true=false):unl n (listed.setIfInBounds i true)<unl n listed:=by
 unfold unl
 have e:(List.range n).filter (fun j=>!(listed.setIfInBounds i true).getD j true)=((List.range n).filter fun j=>!listed.getD j true).filter (fun j=>decide (j≠i)):=by
  rw [List.filter_filter]
  refine List.filter_congr fun j hj=>?_
  by_cases hji:j=i
  ·subst hji
   rw [lget_eq true true (by omega)]
   simp
  ·rw [lget_ne true true (fun h'=>hji h'.symm)]
   simp [hji]
 rw [e]
 exact List.length_filter_lt_length_iff_exists.2 ⟨i,List.mem_filter.2 ⟨List.mem_range.2 hi,by rw [h];rfl⟩,by simp⟩
theorem all_listed {ops:Array Oper} (hf:FreeOk ops) {listed:Array Bool} (hl:listed.size=ops.size) (h:Region.ready .any ops listed=[]):∀ i,i<ops.size→listed.getD i true=true:=by
 intro i
 induction i using Nat.strongRecOn with
 | ind i ih =>
  intro hi
  by_cases hg:listed.getD i true=true
  ·exact hg
  ·exfalso
   have hm:i ∈ Region.ready .any ops listed:=mem_ready.2 ⟨by simpa using hg,ops[i],Array.getElem?_eq_getElem hi,fun e he hb=>by
    have h1:=hf.b i ops[i] (Array.getElem?_eq_getElem hi) e he hb
    have h2:=ih e.on h1 (by omega)
    rw [lget_any false true (by omega)]
    exact h2⟩
   rw [h] at hm
   cases hm
def noW (ops:Array Oper) (t:Tmp):Bool:=ops.toList.all fun o=>o.dst != some t
def isW (ops:Array Oper) (j:Nat) (t:Tmp):Bool:=match ops[j]? with|some o=>o.dst == some t|none=>false
def AllOb (f:Nat→Oper→Prop):List Oper→Nat→Prop
 | [],_=>True
 | o :: l,k=>f k o∧AllOb f l (k+1)
theorem allOb_get {f:Nat→Oper→Prop}:∀ (l:List Oper) (k:Nat),AllOb f l k→∀ (i:Nat) (o:Oper),l[i]?=some o→f (k+i) o
 | [],k,h,i,o,hi=>by simp at hi
 | o' :: l,k,h,0,o,hi=>by
  obtain rfl:o'=o:=by simpa using hi
  exact h.1
 | o' :: l,k,h,i+1,o,hi=>by
  have:=allOb_get l (k+1) h.2 i o (by simpa using hi)
  rwa [show k+1+i=k+(i+1) from by omega] at this
theorem outs_val {o:Oper} {ρ:Operand→Value} {W:World} {R:Value→World→Prop} (s:Sem Value) (he:execOp ρ o=(do pure (Next.value (← s)))) {v:Value} {W':World} (hr:s.run P W=.ok v W') (h:R v W'):outs P o ρ W R:=by
 unfold outs
 rw [he,Sem.run_bind,hr]
 exact h
theorem outs_run {o:Oper} {ρ:Operand→Value} {W:World} {R:Value→World→Prop} {v:Value} {W':World} (he:(execOp ρ o).run P W=.ok (.value v) W') (h:R v W'):outs P o ρ W R:=by
 unfold outs
 rw [he]
 exact h
theorem outs_call {o:Oper} {ρ:Operand→Value} {W:World} {R:Value→World→Prop} {f:FuncId} {args:Array Value} (he:(execOp ρ o).run P W=.ok (.enter f args) W) (h:Calls P f args W fun e W'=>∃ v,e=.returned v∧R v W') :
 outs P o ρ W R:=by
 unfold outs
 rw [he]
 exact h
end
section
variable {P:Program}
def dstV (f:Operand→Value) (o:Oper):Value:=match o.dst with|some t=>f (.tmp t)|none=>undef
def keepV (o:Oper) (v:Value):Value:=match o.dst with|some _=>v|none=>undef
structure FInvS (ops:Array Oper) (a:Act) (R0:World→Prop) (Ψ:Nat→Value→World→Prop) (listed:Array Bool) (a':Act) (W:World):Prop where
 lz:listed.size=ops.size
 sz:a'.tmps.size=a.tmps.size
 df:a'.defers=a.defers
 out:∀ (t:Tmp),(∀ (j:Nat) (oj:Oper),ops[j]?=some oj→oj.dst=some t→listed.getD j true=false)→a'.tmps[t]?=a.tmps[t]?
 ps:∀ (j:Nat) (oj:Oper),ops[j]?=some oj→listed.getD j true=true→Ψ j (dstV a'.eval oj) W
 r:R0 W
theorem FInvS.done {ops:Array Oper} {a:Act} {R0:World→Prop} {Ψ:Nat→Value→World→Prop} {listed:Array Bool} {a':Act} {W:World} (hf:FreeOk ops)
 (hsz:∀ (i:Nat) (oi:Oper) (t:Tmp),ops[i]?=some oi→oi.dst=some t→t<a.tmps.size) (h:FInvS ops a R0 Ψ listed a' W) (hall:∀ i,i<ops.size→listed.getD i true=true) :
 ∃ V:Nat→Value,(∀ (i:Nat) (oi:Oper),ops[i]?=some oi→Ψ i (V i) W)∧a'=putAll a ops.toList 0 V:=by
 refine ⟨fun i=>match ops[i]? with|some oi=>(match oi.dst with|some t=>a'.eval (.tmp t)|none=>undef)|none=>undef,fun i oi hi=>?_,?_⟩
 ·have:=h.ps i oi hi (hall i (Array.getElem?_eq_some_iff.1 hi).1)
  simp only [hi]
  exact this
 ·obtain ⟨T',D'⟩:=a'
  have hd:=putAll_defers (fun i=>match ops[i]? with|some oi=>(match oi.dst with|some t=>(⟨T',D'⟩:Act).eval (.tmp t)|none=>undef)|none=>undef) ops.toList a 0
  have key:∀ (t:Nat),T'[t]?=(putAll a ops.toList 0 (fun i=>match ops[i]? with|some oi=>(match oi.dst with|some t=>(⟨T',D'⟩:Act).eval (.tmp t)|none=>undef)|none=>undef)).tmps[t]?:=by
   intro t
   by_cases hw:∃ (i:Nat) (oi:Oper),ops[i]?=some oi∧oi.dst=some t
   ·obtain ⟨i,oi,hi,ht⟩:=hw
    have hlt:=hsz i oi t hi ht
    rw [putAll_at _ ht ops.toList a 0 i hlt (by simpa using hi) (fun j' o' h1 h2=>hf.u j' o' i oi t (by simpa using h1) hi h2 ht),Nat.zero_add]
    simp only [hi,ht]
    have hlt':t<T'.size:=Nat.lt_of_lt_of_eq hlt (show T'.size=a.tmps.size from h.sz).symm
    rw [Array.getElem?_eq_getElem hlt']
    simp [Act.eval,Array.getD_eq_getD_getElem?,hlt']
   ·have hn:∀ (j:Nat) (oj:Oper),ops[j]?=some oj→oj.dst≠some t:=fun j oj hj e=>hw ⟨j,oj,hj,e⟩
    rw [putAll_out _ ops.toList a 0 (fun o ho e=>by
     obtain ⟨j,hj,rfl⟩:=List.getElem_of_mem ho
     exact hn j _ (by first|(simp;done)|(simp at hj ⊢;exact ⟨hj,rfl⟩)) e)]
    exact h.out t (fun j oj hj e=>absurd e (hn j oj hj))
  generalize putAll a ops.toList 0 _=b at *
  obtain ⟨T,D⟩:=b
  have e1:T'=T:=Array.ext_getElem? key
  have e2:D'=D:=h.df.trans hd.symm
  rw [e1,e2]
theorem wpAny_freeS {ops:Array Oper} (hf:FreeOk ops) {Q:Exit→Act→World→Prop} {a:Act} (hsz:∀ (i:Nat) (oi:Oper) (t:Tmp),ops[i]?=some oi→oi.dst=some t→t<a.tmps.size)
 (R0:World→Prop) (Rel:World→World→Prop) (Ψ:Nat→Value→World→Prop) (hst:∀ i v W W',Rel W W'→Ψ i v W→Ψ i v W')
 (hob:∀ (i:Nat) (oi:Oper),ops[i]?=some oi→∀ (ρ:Operand→Value) (W:World),R0 W→(∀ v,ρ (.const v)=v)→(∀ g,ρ (.global g)=.pointer (some ⟨g,0,none⟩))→(∀ f,ρ (.func f)=.func (.func f) #[] #[]) →
  (∀ t,(∀ (j:Nat) (oj:Oper),ops[j]?=some oj→oj.dst≠some t)→ρ (.tmp t)=a.eval (.tmp t))→(∀ (j:Nat) (oj:Oper) (t:Tmp),ops[j]?=some oj→oj.dst=some t→t ∈ oi.looksAt ops→Ψ j (ρ (.tmp t)) W) →
  (∀ (j:Nat) (oj:Oper),ops[j]?=some oj→(∃ e ∈ oi.after,Region.binds .any e=true∧e.on=j)→Ψ j (dstV ρ oj) W) →
  outs P oi ρ W fun v W'=>R0 W'∧Rel W W'∧Ψ i (keepV oi v) W')
 (hfin:∀ (V:Nat→Value) (W:World),R0 W→(∀ (i:Nat) (oi:Oper),ops[i]?=some oi→Ψ i (V i) W)→Q .normal (putAll a ops.toList 0 V) W) :
 ∀ (fuel:Nat) (listed:Array Bool) (a':Act) (W:World),FInvS ops a R0 Ψ listed a' W→unl ops.size listed≤fuel→wpAny P .any ops Q fuel listed a' W:=by
 have fin:∀ (listed:Array Bool) (a':Act) (W:World),FInvS ops a R0 Ψ listed a' W→Region.ready .any ops listed=[]→Q .normal a' W:=fun listed a' W h hr=>by
  obtain ⟨V,h1,h2⟩:=h.done hf hsz (all_listed hf h.lz hr)
  rw [h2]
  exact hfin V W h.r h1
 intro fuel
 induction fuel with
 | zero =>
  intro listed a' W h hu
  have hr:Region.ready .any ops listed=[]:=by
   have h0:(List.range ops.size).filter (fun i=>!listed.getD i true)=[]:=List.eq_nil_of_length_eq_zero (by unfold unl at hu;omega)
   refine List.eq_nil_iff_forall_not_mem.2 fun i hi=>?_
   obtain ⟨h1,oi,h2,-⟩:=mem_ready.1 hi
   have:i ∈ (List.range ops.size).filter (fun i=>!listed.getD i true):=List.mem_filter.2 ⟨List.mem_range.2 (Array.getElem?_eq_some_iff.1 h2).1,by rw [h1];rfl⟩
   rw [h0] at this
   cases this
  exact ⟨hr,fin listed a' W h hr⟩
 | succ fuel ih =>
  intro listed a' W h hu
  refine ⟨fin listed a' W h,fun i hi=>?_⟩
  obtain ⟨h1,oi,h2,h3⟩:=mem_ready.1 hi
  have hlt:i<ops.size:=(Array.getElem?_eq_some_iff.1 h2).1
  have hli:i<listed.size:=by have:=h.lz;omega
  have hlst:∀ (j:Nat) (oj:Oper),ops[j]?=some oj→(∃ e ∈ oi.after,Region.binds .any e=true∧e.on=j)→listed.getD j true=true:=fun j oj hj ⟨e,he,hb,ho⟩=>by
   have:=h3 e he hb
   rw [ho] at this
   rw [lget_any true false (by have:=h.lz;have:=(Array.getElem?_eq_some_iff.1 hj).1;omega)]
   exact this
  unfold wpOp
  simp only [h2]
  rw [if_pos (show Region.wanted oi (yielded ops a'.tmps)=true from by simp [Region.wanted,hf.g i oi h2])]
  refine .inl (outs_wp (R:=fun v W'=>R0 W'∧Rel W W'∧Ψ i (keepV oi v) W') (hob i oi h2 a'.eval W h.r (fun _=>rfl) (fun _=>rfl) (fun _=>rfl) (fun t ht=>?_) (fun j oj t hj hd hl=>?_) (fun j oj hj he=>?_)) ?_)
  ·have:=h.out t (fun j oj hj e=>absurd e (ht j oj hj))
   simp [Act.eval,Array.getD_eq_getD_getElem?,this]
  ·have:=h.ps j oj hj (hlst j oj hj (hf.d i oi j oj t h2 hj hd hl))
   unfold dstV at this
   rw [hd] at this
   exact this
  ·exact h.ps j oj hj (hlst j oj hj he)
  ·rintro v W' ⟨r1,r2,r3⟩
   refine ih _ _ _ ⟨by simpa using h.lz,by rw [put_size];exact h.sz,by rw [put_defers];exact h.df,fun t ht=>?_,fun j oj hj hl=>?_,r1⟩ ?_
   ·have hne:oi.dst≠some t:=fun e=>by
     have:=ht i oi h2 e
     rw [lget_eq true true hli] at this
     cases this
    rw [put_get_ne _ _ hne]
    refine h.out t fun j oj hj e=>?_
    have h4:=ht j oj hj e
    by_cases hji:i=j
    ·subst hji;exact h1
    ·rw [lget_ne true true hji] at h4;exact h4
   ·by_cases hji:i=j
    ·subst hji
     obtain rfl:oi=oj:=by rw [h2] at hj;injection hj
     unfold keepV at r3
     unfold dstV
     cases hd:oi.dst with
     | none=>rw [hd] at r3;exact r3
     | some t =>
      rw [hd] at r3
      have hlt2:t<a'.tmps.size:=by rw [h.sz];exact hsz i oi t h2 hd
      have:((a'.put (some t) v).eval (.tmp t))=v:=by
       simp [Act.eval,Array.getD_eq_getD_getElem?,put_get a' v hlt2]
      simp only [this]
      exact r3
    ·rw [lget_ne true true hji] at hl
     have h5:=hst j _ W W' r2 (h.ps j oj hj hl)
     have e:dstV (a'.put oi.dst v).eval oj=dstV a'.eval oj:=by
      unfold dstV
      cases hd:oj.dst with
      | none=>rfl
      | some t =>
       have hne:oi.dst≠some t:=fun e=>hji (hf.u i oi j oj t h2 hj e hd)
       simp [Act.eval,Array.getD_eq_getD_getElem?,put_get_ne a' v hne]
     rw [e]
     exact h5
   ·have:=unl_lt hlt h.lz h1
    omega
def szS (ops:Array Oper) (n:Nat):Bool:=ops.toList.all fun o=>match o.dst with|some t=>decide (t<n)|none=>true
def aftB (o:Oper) (j:Nat):Bool:=o.after.any fun e=>Region.binds .any e && e.on == j
def ToldS (P:Program) (ops:Array Oper) (a:Act) (R0:World→Prop) (Rel:World→World→Prop) (Ψ:Nat→Value→World→Prop) (i:Nat) (oi:Oper):Prop :=
 ∀ (ρ:Operand→Value) (W:World),R0 W→(∀ v,ρ (.const v)=v)→(∀ g,ρ (.global g)=.pointer (some ⟨g,0,none⟩))→(∀ f,ρ (.func f)=.func (.func f) #[] #[]) →
  (∀ t,noW ops t=true→ρ (.tmp t)=a.eval (.tmp t))→(∀ j t,isW ops j t=true→(oi.looksAt ops).contains t=true→Ψ j (ρ (.tmp t)) W) →
  (∀ j,j<ops.size→aftB oi j=true→∃ v,Ψ j v W) →
  outs P oi ρ W fun v W'=>R0 W'∧Rel W W'∧Ψ i (keepV oi v) W'
theorem wp_region_toldS {id:Nat} {Q:Exit→Act→World→Prop} {a:Act} {w:World} {l:List Oper} (hm:P.follows .mixedOrders=true) (hB:freeB l.toArray=true) (n:Nat) (hn:a.tmps.size=n) (hs:szS l.toArray n=true)
 (R0:World→Prop) (Rel:World→World→Prop) (Ψ:Nat→Value→World→Prop) (hst:∀ i v W W',Rel W W'→Ψ i v W→Ψ i v W') (h0:R0 { w with drawn:=w.drawn+1 })
 (hob:AllOb (ToldS P l.toArray a R0 Rel Ψ) l 0)
 (hfin:∀ (V:Nat→Value) (W:World),R0 W→(∀ i,i<l.length→Ψ i (V i) W)→Q .normal (putAll a l 0 V) W):(Code.region id l.toArray true).wp P Q a w:=by
 have hf:=freeOk hB
 have hsz:∀ (i:Nat) (oi:Oper) (t:Tmp),l.toArray[i]?=some oi→oi.dst=some t→t<a.tmps.size:=fun i oi t hi ht=>by
  have:=List.all_eq_true.1 hs oi (List.mem_of_getElem? (by simpa using hi))
  rw [ht] at this
  exact Nat.lt_of_lt_of_eq (of_decide_eq_true this) hn.symm
 refine wp_region_any hm (wpAny_freeS hf hsz R0 Rel Ψ hst (fun i oi hi ρ W r c g f ho hd ha=>?_) (fun V W r hV=>?_) l.toArray.size _ a _ ⟨by simp,rfl,rfl,fun t _=>rfl,fun j oj hj hl=>?_,h0⟩ ?_)
 ·have h1:=allOb_get l 0 hob i oi (by simpa using hi)
  rw [Nat.zero_add] at h1
  refine h1 ρ W r c g f (fun t ht=>ho t fun j oj hj e=>?_) (fun j t hw hl=>?_) (fun j hj hw=>?_)
  ·have:=List.all_eq_true.1 ht oj (by
    have:=List.mem_of_getElem? (l:=l) (by simpa using hj)
    simpa using this)
   rw [e] at this
   simp at this
  ·unfold isW at hw
   cases hj:(l.toArray)[j]? with
   | none=>rw [hj] at hw;cases hw
   | some oj =>
    rw [hj] at hw
    exact hd j oj t hj (by simpa using hw) (by simpa using hl)
  ·unfold aftB at hw
   rw [Array.any_eq_true'] at hw
   obtain ⟨e,he,h5⟩:=hw
   rw [Bool.and_eq_true] at h5
   exact ⟨_,ha j _ (Array.getElem?_eq_getElem hj) ⟨e,he,h5.1,by simpa using h5.2⟩⟩
 ·have:=hfin V W r (fun i hi=>hV i l[i] (by simp [hi]))
  simpa using this
 ·rw [getD_replicate_in (by exact (Array.getElem?_eq_some_iff.1 hj).1)] at hl
  cases hl
 ·unfold unl
  exact Nat.le_trans (List.length_filter_le _ _) (by simp)
theorem outs_store_row {o:Oper} {ρ:Operand→Value} {W:World} {R:Value→World→Prop} (ty:TypeId) (x y:Operand) (ho:o.op=.store ty x y)
 (g:Nat) (cells:Array Value) (hx:ρ x=.pointer (some ⟨g,0,none⟩)) (hy:ρ y=.agg cells)
 (t:TypeId) (old:Array Value) (hg:W.heap[g]?=some (.cells old t (0,0))) (hi:(P.info? ty).map (·.size)=some cells.size)
 (hold:old.size=cells.size) (h1:cells.all (·.oneCell')=true) (h:R undef (W.setRow g cells)):outs P o ρ W R:=by
 unfold outs execOp
 simp only [ho,hx,hy,Instr.storeAt,Instr.sureAddr,Sem.run_bind,Sem.run_pure,Result.andThen_ok,run_storeVar_row W g t ty old cells hg hi hold h1]
 exact h
theorem outs_store_one {o:Oper} {ρ:Operand→Value} {W:World} {R:Value→World→Prop} (ty:TypeId) (x y:Operand) (ho:o.op=.store ty x y)
 (g:Nat) (v:Value) (hx:ρ x=.pointer (some ⟨g,0,none⟩)) (hy:ρ y=v) (h1:v.oneCell'=true)
 (t:TypeId) (old:Value) (hg:W.heap[g]?=some (.cells #[old] t (0,0))) (hi:(P.info? ty).map (·.size)=some 1) (h:R undef (W.setRow g #[v])):outs P o ρ W R:=by
 unfold outs execOp
 simp only [ho,hx,hy,Instr.storeAt,Instr.sureAddr,Sem.run_bind,Sem.run_pure,Result.andThen_ok,run_storeVar_one W g t ty old v hg hi h1]
 exact h
end
theorem run_b62 (x y z:Int) (a:Option Addr) (n c:Nat) (w:World):(Instr.build 42 #[(0,.int .u32 x),(1,.int .u32 y),(2,.slice a n c),(3,.int .u32 z)]).run Tryz.prog w=.ok (.agg #[.int .u32 x,.int .u32 y,.slice a n c,.int .u32 z]) w:=by kernel_rfl
theorem info62:(Tryz.prog.info? 42).map (·.size)=some 4:=by kernel_rfl
theorem size62 (a b c d:Value):(Tryz.prog.info? 42).map (·.size)=some (#[a,b,c,d]:Array Value).size:=info62
theorem zero62 (w:World):(zeroValue 42).run Tryz.prog w=.ok (.agg #[.int .u32 0,.int .u32 0,.slice none 0 0,.int .u32 0]) w:=by kernel_rfl
theorem cells62 {w:World} {g:Nat} {a b c d:Value} (h:w.heap[g]?=some (.cells #[a,b,c,d] 42 (0,0))):w.cell? ⟨g,0,none⟩=some a∧w.cell? ⟨g,1,none⟩=some b∧w.cell? ⟨g,2,none⟩=some c∧w.cell? ⟨g,3,none⟩=some d :=
 ⟨cell_of_row w g 0 _ _ _ h,cell_of_row w g 1 _ _ _ h,cell_of_row w g 2 _ _ _ h,cell_of_row w g 3 _ _ _ h⟩
theorem own_reads {w:World} {B e sz n:Nat} {v:Value} {xs:List Value} (h:w.ownsRow B e sz v n xs):Reads w sz v n xs:=by
 obtain ⟨a,c,hv,hn,hc,hp⟩:=own_sl h
 refine ⟨a,c,hv,h.1,hn,hc,fun ha=>?_,fun h0=>?_⟩
 ·rcases h.2 with ⟨e1,e2⟩|⟨g,cap,cur,e1,-⟩
  ·rw [hv] at e1;injection e1 with _ _ e3
  ·rw [hv,ha] at e1;cases e1
 ·obtain ⟨g,ha,hg,hcell⟩:=hp h0
  exact ⟨g,0,ha,hg,fun j hj=>by rw [Nat.zero_add];exact hcell j hj⟩
def evOwn (B:Nat) (l:List Nat) (W:World) (v:Value):Prop:=∃ aa ca,v=.slice aa l.length ca∧W.ownsRow B 25 1 v l.length (encN .u32 l)
theorem evOwn.below {B:Nat} {l:List Nat} {W W':World} {v:Value} (h:evOwn B l W v) (hb:Below W.heap.size W W'):evOwn B l W' v:=by
 obtain ⟨aa,ca,e,h⟩:=h
 exact ⟨aa,ca,e,own_below h hb⟩
theorem evOwn.setRow {B:Nat} {l:List Nat} {W:World} {v:Value} (h:evOwn B l W v) {q:Nat} (hq:q<B) {cs:Array Value}:evOwn B l (W.setRow q cs) v:=by
 obtain ⟨aa,ca,e,h⟩:=h
 exact ⟨aa,ca,e,own_setRow h hq⟩
structure EvR (w:World) (t9 q:Nat) (val:Nat) (vw:Value) (W:World):Prop where
 b:Below w.heap.size w W
 r9:W.heap[t9]?=some (.cells #[.int .u32 val,vw] 69 (0,0))
 rq:∃ old:Array Value,old.size=4∧W.heap[q]?=some (.cells old 42 (0,0))
theorem EvR.below {w W W':World} {t9 q val:Nat} {vw:Value} (h:EvR w t9 q val vw W) (hb:Below W.heap.size W W'):EvR w t9 q val vw W':=by
 obtain ⟨o,ho,hr⟩:=h.rq
 exact ⟨Bel.tr h.b hb,(hb.block _ (Array.getElem?_eq_some_iff.1 h.r9).1).trans h.r9,o,ho,(hb.block _ (Array.getElem?_eq_some_iff.1 hr).1).trans hr⟩
def evΨ (q t9 B at_ x val:Nat) (vl:Value) (l:List Nat):Nat→Value→World→Prop
 | 0,v,W=>v=.int .u32 at_
 | 1,v,W=>v=.int .u32 x
 | 2,v,W=>v=vl
 | 3,v,W=>evOwn B l W v
 | 4,v,W=>v=.pointer (some ⟨t9,0,none⟩)
 | 5,v,W=>v=.int .u32 val
 | 6,v,W=>∃ va,evOwn B l W va∧v=.agg #[.int .u32 at_,.int .u32 x,va,.int .u32 val]
 | 7,v,W=>∃ va,evOwn B l W va∧W.heap[q]?=some (.cells #[.int .u32 at_,.int .u32 x,va,.int .u32 val] 42 (0,0))
 | 8,v,W=>v=.int .i64 0
 | _,_,_=>True
theorem evΨ_keep {q t9 B at_ x val:Nat} {vl:Value} {l:List Nat} {W W':World} (h1:∀ v,evOwn B l W v→evOwn B l W' v) (h2:∀ va,evOwn B l W va∧W.heap[q]?=some (.cells #[.int .u32 at_,.int .u32 x,va,.int .u32 val] 42 (0,0))→∃ va,evOwn B l W' va∧W'.heap[q]?=some (.cells #[.int .u32 at_,.int .u32 x,va,.int .u32 val] 42 (0,0))):∀ (i:Nat) (v:Value),evΨ q t9 B at_ x val vl l i v W→evΨ q t9 B at_ x val vl l i v W'
 | 0,v,h=>h
 | 1,v,h=>h
 | 2,v,h=>h
 | 3,v,h=>h1 v h
 | 4,v,h=>h
 | 5,v,h=>h
 | 6,v,h=>let ⟨va,h3,h4⟩:=h;⟨va,h1 va h3,h4⟩
 | 7,v,h=>let ⟨va,h3,h4⟩:=h;h2 va ⟨h3,h4⟩
 | 8,v,h=>h
 | _+9,_,_=>trivial
section
variable {w:World} {v:Value} {gr:List (Nat×Int)}
def EventPost (at_ x:Nat) (l:List Nat) (val:Nat) (w:World) (e:Ending) (w':World):Prop :=
 ∃ va,e=.returned (.tuple #[.agg #[.int .u32 at_,.int .u32 x,va,.int .u32 val],.int .i64 0])∧w'.ownsRow w.heap.size 25 1 va l.length (encN .u32 l)∧Below w.heap.size w w'
theorem event_any (hg:GateAt w v gr) {x at_ val:Nat} (hx:x<4294967296) {n:Nat} (hn:grantedN gr x=some (n:Int)) {vl:Value} {l:List Nat} (hl:w.ownsRow 0 25 1 vl n (encN .u32 l)) (hln:l.length=n) (hn15:n≤15) {vw:Value} {ws:List (Nat×List Nat)} (hw:WsAt w vw ws) (hf:repFits ws=true) :
 Calls Tryz.prog 151 #[v,.int .u32 at_,.int .u32 x,vl,.agg #[.int .u32 val,vw]] w (EventPost at_ x l val w):=by
 have hmx:Tryz.prog.follows .mixedOrders=true:=by kernel_rfl
 have hz:=zero62
 have hbd:=run_b62
 subst hln
 have HG:=Lib.hid (fun W (hW:Below w.heap.size w W)=>granted_any (hg.below hW) x hx)
 rw [hn] at HG
 have HMd:=Lib.hid (fun W (hW:Below w.heap.size w W)=>gmade_any (hg.below hW))
 have HFi:=Lib.hid (fun W (hW:Below w.heap.size w W)=>rfits_any (hw.below hW) val)
 rw [hf] at HFi
 have HCl:=Lib.hid (fun W (hW:Below w.heap.size w W)=>cloneW_any vl l.length (encN .u32 l) (by omega) (fun x hx=>by simp only [encN,List.mem_map] at hx;obtain ⟨y,-,rfl⟩:=hx;rfl) W (own_reads (own_below hl hW)))
 obtain ⟨a,cap,rfl,-⟩:=hw
 obtain ⟨al,cl,rfl,-⟩:=own_sl hl
 obtain ⟨W1,hW1⟩:∃ W1,W1=(w.alloc (.cells #[.int .u32 val,.slice a ws.length cap] 69)).alloc (.cells #[.int .u32 0,.int .u32 0,.slice none 0 0,.int .u32 0] 42):=⟨_,rfl⟩
 have hb1:Below w.heap.size w W1:=by rw [hW1];exact Bel.al (Bel.new _ _) _
 have hh1:W1.heap[w.heap.size]?=some (.cells #[.int .u32 val,.slice a ws.length cap] 69 (0,0)):=by rw [hW1,Below.heap_alloc _ _ _ (by simp)];exact heap_alloc_new _ _
 have hh2:W1.heap[w.heap.size+1]?=some (.cells #[.int .u32 0,.int .u32 0,.slice none 0 0,.int .u32 0] 42 (0,0)):=by
  rw [hW1]
  have:=heap_alloc_new (w.alloc (.cells #[.int .u32 val,.slice a ws.length cap] 69)) (.cells #[.int .u32 0,.int .u32 0,.slice none 0 0,.int .u32 0] 42)
  simpa using this
 have HB1:=Lib.hid hb1
 have HH1:=Lib.hid hh1
 have HH2:=Lib.hid hh2
 have hl1:w.heap.size<W1.heap.size:=(Array.getElem?_eq_some_iff.1 hh1).1
 have hl2:w.heap.size+1<W1.heap.size:=(Array.getElem?_eq_some_iff.1 hh2).1
 obtain ⟨p0,p1⟩:=cells162 hh1
 generalize ws.length=nw at *
 clear hg hl hn hf hb1 hh1 hh2
 go_enter Tryz.func151,Tryz.ntmps151
 go_wp2_with fail
 rw [← hW1]
 clear hW1
 refine (HG.out W1 HB1.out).mono ?_
 rintro e w2 ⟨rfl,rfl⟩
 go_wp2_with fail
 refine (HMd.out W1 HB1.out).mono ?_
 rintro e w2 ⟨rfl,rfl⟩
 go_wp2_with fail
 refine (HFi.out W1 HB1.out).mono ?_
 rintro e w2 ⟨rfl,hb2⟩
 have q0:=(hb2.cell (p:=⟨w.heap.size,0,none⟩) hl1).trans p0
 have HB2:=Lib.hid (Bel.tr HB1.out hb2)
 have hl3:w.heap.size<w2.heap.size:=Nat.lt_of_lt_of_le hl1 hb2.size
 have hl4:w.heap.size+1<w2.heap.size:=Nat.lt_of_lt_of_le hl2 hb2.size
 have HK2:=Lib.hid (((hb2.block _ hl2).trans HH2.out:w2.heap[w.heap.size+1]?=_):w2.drew.heap[w.heap.size+1]?=_)
 have HK9:=Lib.hid (((hb2.block _ hl1).trans HH1.out:w2.heap[w.heap.size]?=_):w2.drew.heap[w.heap.size]?=_)
 clear hb2 p0 p1
 go_wp2_with fail
 refine wp_region_toldS hmx (by kernel_rfl) 47 rfl (by kernel_rfl) (EvR w w.heap.size (w.heap.size+1) val (.slice a nw cap)) (fun W W'=>∀ i v,evΨ (w.heap.size+1) w.heap.size (w.heap.size+2) at_ x val (.slice al l.length cl) l i v W→evΨ (w.heap.size+1) w.heap.size (w.heap.size+2) at_ x val (.slice al l.length cl) l i v W') (evΨ (w.heap.size+1) w.heap.size (w.heap.size+2) at_ x val (.slice al l.length cl) l) (fun i v W W' h=>h i v) (⟨HB2.out.drew,HK9.out,_,rfl,HK2.out⟩) ⟨?_,?_,?_,?_,?_,?_,?_,?_,?_,trivial⟩ ?_
 ·intro ρ W hW hc hg hf ho hd ha
  have e0:ρ (.tmp 1)=.int .u32 at_:=ho 1 (by kernel_rfl)
  exact outs_run (v:=.int .u32 at_) (W':=W) (by simp [go_sem,hc,hf,e0]) ⟨hW,fun _ _ h=>h,rfl⟩
 ·intro ρ W hW hc hg hf ho hd ha
  have e0:ρ (.tmp 2)=.int .u32 x:=ho 2 (by kernel_rfl)
  exact outs_run (v:=.int .u32 x) (W':=W) (by simp [go_sem,hc,hf,e0]) ⟨hW,fun _ _ h=>h,rfl⟩
 ·intro ρ W hW hc hg hf ho hd ha
  have e0:ρ (.tmp 3)=.slice al l.length cl:=ho 3 (by kernel_rfl)
  exact outs_run (v:=.slice al l.length cl) (W':=W) (by simp [go_sem,hc,hf,e0]) ⟨hW,fun _ _ h=>h,rfl⟩
 ·intro ρ W hW hc hg hf ho hd ha
  have e0:ρ (.tmp 42)=_:=hd 2 42 (by kernel_rfl) (by kernel_rfl)
  refine outs_call (by simp [go_sem,e0,hf];done) ((HCl.out W hW.b).mono ?_)
  rintro e' W' ⟨va,rfl,hown,hb⟩
  have hw:evOwn (w.heap.size+2) l W' va:=⟨_,_,(own_sl hown).choose_spec.choose_spec.1,own_downT hown (by obtain ⟨o9,-,h9⟩:=hW.rq;have:=(Array.getElem?_eq_some_iff.1 h9).1;omega)⟩
  refine ⟨va,rfl,hW.below hb,evΨ_keep (fun v h=>evOwn.below h hb) (fun v h=>⟨v,evOwn.below h.1 hb,(hb.block _ (Array.getElem?_eq_some_iff.1 h.2).1).trans h.2⟩),hw⟩
 ·intro ρ W hW hc hg hf ho hd ha
  have e0:ρ (.tmp 9)=.pointer (some ⟨w.heap.size,0,none⟩):=ho 9 (by kernel_rfl)
  exact outs_run (v:=.pointer (some ⟨w.heap.size,0,none⟩)) (W':=W) (by simp [go_sem,hc,hf,e0]) ⟨hW,fun _ _ h=>h,rfl⟩
 ·intro ρ W hW hc hg hf ho hd ha
  have e0:ρ (.tmp 44)=.pointer (some ⟨w.heap.size,0,none⟩):=hd 4 44 (by kernel_rfl) (by kernel_rfl)
  have c0:=(cells162 hW.r9).1
  exact outs_run (v:=.int .u32 val) (W':=W) (by simp [go_sem,hc,hf,e0,c0]) ⟨hW,fun _ _ h=>h,rfl⟩
 ·intro ρ W hW hc hg hf ho hd ha
  have e0:ρ (.tmp 40)=_:=hd 0 40 (by kernel_rfl) (by kernel_rfl)
  have e1:ρ (.tmp 41)=_:=hd 1 41 (by kernel_rfl) (by kernel_rfl)
  have e3:ρ (.tmp 45)=_:=hd 5 45 (by kernel_rfl) (by kernel_rfl)
  have e2:evOwn (w.heap.size+2) l W (ρ (.tmp 43)):=hd 3 43 (by kernel_rfl) (by kernel_rfl)
  have e2b:=e2
  obtain ⟨aa,ca,e2,-⟩:=e2
  exact outs_val _ rfl (by simp only [List.map_toArray,List.map_cons,List.map_nil,e0,e1,e2,e3];exact run_b62 _ _ _ _ _ _ W) ⟨hW,fun _ _ h=>h,⟨_,e2 ▸ e2b,rfl⟩⟩
 ·intro ρ W hW hc hg hf ho hd ha
  have e0:ρ (.tmp 10)=.pointer (some ⟨w.heap.size+1,0,none⟩):=ho 10 (by kernel_rfl)
  obtain ⟨va,hva,e1⟩:∃ va,evOwn (w.heap.size+2) l W va∧ρ (.tmp 46)=.agg #[.int .u32 at_,.int .u32 x,va,.int .u32 val]:=hd 6 46 (by kernel_rfl) (by kernel_rfl)
  obtain ⟨o9,h9,hr⟩:=hW.rq
  have hva2:=hva
  obtain ⟨aa,ca,rfl,-⟩:=hva2
  exact outs_store_row 42 (.tmp 10) (.tmp 46) rfl (w.heap.size+1) _ e0 e1 42 o9 hr info62 h9 (by simp [Value.oneCell']) ⟨⟨below_setRow hW.b _ (by omega) _,(setRow_other _ _ _ _ (by omega)).trans hW.r9,⟨_,rfl,setRow_heap _ _ _ _ _ _ hr⟩⟩,evΨ_keep (fun v h=>evOwn.setRow h (by omega)) (fun v h=>⟨_,evOwn.setRow hva (by omega),setRow_heap _ _ _ _ _ _ hr⟩),⟨_,evOwn.setRow hva (by omega),setRow_heap _ _ _ _ _ _ hr⟩⟩
 ·intro ρ W hW hc hg hf ho hd ha
  exact outs_run (v:=.int .i64 0) (W':=W) (by simp [go_sem,hc]) ⟨hW,fun _ _ h=>h,rfl⟩
 ·intro V W hW hV
  obtain ⟨va,hva,hr⟩:∃ va,evOwn (w.heap.size+2) l W va∧W.heap[w.heap.size+1]?=some (.cells #[.int .u32 at_,.int .u32 x,va,.int .u32 val] 42 (0,0)):=hV 7 (by decide)
  have f8:V 8=.int .i64 0:=hV 8 (by decide)
  have HBw:=Lib.hid hW.b
  clear hV hW
  simp only [putAll,Act.put,List.setIfInBounds_toArray,List.set_cons_zero,List.set_cons_succ,f8]
  obtain ⟨aa,ca,rfl,hown⟩:=hva
  have HO:=Lib.hid hown
  have HRr:=Lib.hid hr
  clear hown hr
  go_wp2_with fail
  refine bodyPost_ret (v:=.tuple #[.agg #[.int .u32 at_,.int .u32 x,.slice aa l.length ca,.int .u32 val],.int .i64 0]) (results_cell_tmp Tryz.results151 _ _ (w.heap.size+1) 42 _ (0,0) _ rfl HRr.out Tryz.underlying42 rfl (size62 _ _ _ _) _ rfl) rfl ?_
  exact ⟨_,rfl,own_downT HO.out (by omega),HBw.out⟩
end
def encE:List (Ev×Value)→List Value
 | []=>[]
 | x :: l=>.int .u32 x.1.at_ :: .int .u32 x.1.num :: x.2 :: .int .u32 x.1.val :: encE l
theorem encE_append (l m:List (Ev×Value)):encE (l++m)=encE l++encE m:=by
 induction l with
 | nil=>rfl
 | cons x l ih=>simp only [List.cons_append,encE,ih]
theorem encE_length (l:List (Ev×Value)):(encE l).length=l.length * 4:=by
 induction l with
 | nil=>rfl
 | cons x l ih=>simp only [encE,List.length_cons,ih];omega
structure MachX (w:World) (b:Nat) (K:MacK) (s:St) (vo:Value) (R:MacR) (M:MemK) (vt:Value) (logs:Bool) (tou:List (Nat×Bool)) (evs:List (Ev×Value)) (lg:List (Nat×Bool)):Prop where
 m:Mach w b K s vo R M vt logs tou
 ev:w.ownsRow 0 42 4 R.events evs.length (encE evs)
 ea:∀ x ∈ evs,w.ownsRow 0 25 1 x.2 x.1.args.length (encN .u32 x.1.args)
 eo:∀ x ∈ evs,∀ g,x.2.ownBlock=some g→vo.ownBlock≠some g
 lr:w.ownsRow 0 66 2 R.log lg.length (encT lg)
 ll:lg.length≤65536
 lv:∀ g,R.log.ownBlock=some g→vt.ownBlock≠some g
def allF (b:Nat) (vo:Value) (R:MacR) (M:MemK) (vt:Value):Nat→Prop:=fun k=>machF b vo M vt k ∨ R.events.ownBlock=some k ∨ R.log.ownBlock=some k
section
variable {w w':World} {b:Nat} {K:MacK} {s s':St} {vo vo':Value} {R:MacR} {M:MemK} {vt vt':Value} {logs:Bool} {tou tou':List (Nat×Bool)} {evs:List (Ev×Value)} {lg:List (Nat×Bool)}
theorem MacB.ne_own {V:MacV} (h:MacB w b K V) {B e sz n:Nat} {v:Value} {xs:List Value} (ho:w.ownsRow B e sz v n xs) (he:e≠85) {g:Nat} (hg:v.ownBlock=some g):g≠b:=fun e0=>h.not_own ho he (by rw [← e0];exact hg)
theorem MachX.ev_apart (h:MachX w b K s vo R M vt logs tou evs lg):∀ g,R.events.ownBlock=some g→¬ machF b vo M vt g:=by
 intro g hg hf
 rcases hf with (rfl|hf)|rfl|rfl|hf
 ·exact h.m.o.m.not_own h.ev (by decide) hg
 ·exact own_apart h.ev h.m.o.o (by decide) g hg hf
 ·exact not_row_of h.ev h.m.mem.hp (by decide) hg
 ·exact own_apart h.ev h.m.mem.row (by decide) _ hg rfl
 ·exact own_apart h.ev h.m.mem.tr (by decide) g hg hf
theorem MachX.ea_apart (h:MachX w b K s vo R M vt logs tou evs lg):∀ x ∈ evs,∀ g,x.2.ownBlock=some g→¬ machF b vo M vt g:=by
 intro x hx g hg hf
 have hr:=h.ea x hx
 rcases hf with (rfl|hf)|rfl|rfl|hf
 ·exact h.m.o.m.not_own hr (by decide) hg
 ·exact h.eo x hx g hg hf
 ·exact not_row_of hr h.m.mem.hp (by decide) hg
 ·exact own_apart hr h.m.mem.row (by decide) _ hg rfl
 ·exact own_apart hr h.m.mem.tr (by decide) g hg hf
theorem MachX.lr_apart (h:MachX w b K s vo R M vt logs tou evs lg):∀ g,R.log.ownBlock=some g→¬ machF b vo M vt g:=by
 intro g hg hf
 rcases hf with (rfl|hf)|rfl|rfl|hf
 ·exact h.m.o.m.not_own h.lr (by decide) hg
 ·exact own_apart h.lr h.m.o.o (by decide) g hg hf
 ·exact not_row_of h.lr h.m.mem.hp (by decide) hg
 ·exact own_apart h.lr h.m.mem.row (by decide) _ hg rfl
 ·exact h.lv g hg hf
theorem MachX.act (h:MachX w b K s vo R M vt logs tou evs lg) (hm:Mach w' b K s' vo' R M vt' logs tou') (hf:Fr w w' (machF b vo M vt) (machF b vo' M vt')):MachX w' b K s' vo' R M vt' logs tou' evs lg:=by
 refine ⟨hm,own_fr h.ev hf h.ev_apart,fun x hx=>own_fr (h.ea x hx) hf (h.ea_apart x hx),fun x hx g hg e=>?_,own_fr h.lr hf h.lr_apart,h.ll,fun g hg e=>?_⟩
 ·rcases hf.foot g (.inl (.inr e)) with h1|h1
  ·exact h.ea_apart x hx g hg h1
  ·have:=((h.ea x hx).lt g hg).2;omega
 ·rcases hf.foot g (.inr (.inr (.inr e))) with h1|h1
  ·exact h.lr_apart g hg h1
  ·have:=(h.lr.lt g hg).2;omega
theorem frA (hf:Fr w w' (machF b vo M vt) (machF b vo' M vt')) (R:MacR):Fr w w' (allF b vo R M vt) (allF b vo' R M vt') :=
 hf.mono (fun _ e=>.inl e) (fun _ e=>e.elim .inr (fun e=>.inl (.inr e)))
theorem MachX.below (h:MachX w b K s vo R M vt logs tou evs lg) (hb:Below w.heap.size w w'):MachX w' b K s vo R M vt logs tou evs lg:=h.act (h.m.below hb) (Fr.of hb _)
end
def tlR:Nat→Option Code→Option Code
 | 0,c=>c
 | n+1,c=>tlR n (match c with|some (.seq _ y)=>some y|_=>none)
theorem wp_tlR {P:Program} {Q:Exit→Act→World→Prop} {a:Act} {w:World} {k:Nat} {b:Option Code} {c c':Code} (hc:tlR k b=some c) (h:tlR k b=some c') (hw:c'.wp P Q a w):c.wp P Q a w:=by
 rw [hc] at h
 cases h
 exact hw
theorem inf62:(Tryz.prog.info? 42).map (fun i=>(i.zero,i.size,i.bytes))=some (some (.agg #[.int .u32 0,.int .u32 0,.slice none 0 0,.int .u32 0]),4,40):=by kernel_rfl
theorem run_bs60 (x y z:Int) (a:Option Addr) (n c:Nat) (w:World):(Instr.buildSlice 40 1 #[(0,.agg #[.int .u32 x,.int .u32 y,.slice a n c,.int .u32 z])]).run Tryz.prog w=.ok (.slice (some ⟨w.heap.size,0,none⟩) 1 1) (w.alloc (.cells #[.int .u32 x,.int .u32 y,.slice a n c,.int .u32 z] 42)):=by kernel_rfl
section
variable {w0 w w' W:World} {b q q6 x:Nat} {K:MacK} {V:MacV} {s s':St} {vo vo':Value} {R:MacR} {M:MemK} {vt vt':Value} {logs:Bool} {tou tou':List (Nat×Bool)} {evs:List (Ev×Value)} {lg:List (Nat×Bool)} {gr:List (Nat×Int)}
theorem MacB.c75 (h:MacB w b K V):w.cell? ⟨b,75,none⟩=some V.events:=by
 obtain ⟨cs,h,r⟩:=h
 exact (cell_of_row w b 75 _ _ _ h).trans r.c75
theorem MacB.setEvents (h:MacB w b K V) (v:Value):MacB (w.setCell ⟨b,75,none⟩ v) b K { V with events:=v }:=by
 obtain ⟨cs,h,r⟩:=h
 exact ⟨_,heap_setCell_same w b 75 _ _ _ h,r.setEvents v⟩
theorem Mach.fr' {F F':Nat→Prop} (h:Mach w b K s vo R M vt logs tou) (hf:Fr w w' F F') (hn:∀ k,machF b vo M vt k→¬ F k):Mach w' b K s vo R M vt logs tou :=
 ⟨⟨h.o.m.fr hf (hn b (.inl (.inl rfl))),own_fr h.o.o hf (fun g e=>hn g (.inl (.inr e)))⟩,h.mem.fr hf (fun k hk=>hn k (.inr hk)),h.km⟩
theorem MachX.grewEv {W1 w3:World} (h:MachX W b K s vo R M vt logs tou evs lg) (hb:Below W.heap.size W W1) {v9:Value} {x:Ev×Value} (hg:Grew W1 w3 R.events v9) (hr:w3.ownsRow 0 42 4 v9 (evs.length+1) (encE evs++encE [x]))
 (hx:W.ownsRow 0 25 1 x.2 x.1.args.length (encN .u32 x.1.args)) (hxo:∀ g,x.2.ownBlock=some g→¬ allF b vo R M vt g) :
 MachX (w3.setCell ⟨b,75,none⟩ v9) b K s vo { R with events:=v9 } M vt logs tou (evs++[x]) lg∧Fr W (w3.setCell ⟨b,75,none⟩ v9) (allF b vo R M vt) (allF b vo { R with events:=v9 } M vt):=by
 have hf:Fr W w3 (fun k=>R.events.ownBlock=some k) (fun k=>v9.ownBlock=some k):=(Fr.of hb _).trans (Fr.grew (F:=fun k=>R.events.ownBlock=some k) (fun g e=>e) hg (fun k hk=>.inr hk))
 have hm3:=h.m.fr' hf (fun k hk e=>h.ev_apart k e hk)
 have hea:∀ y ∈ evs,w3.ownsRow 0 25 1 y.2 y.1.args.length (encN .u32 y.1.args):=fun y hy=>own_fr (h.ea y hy) hf (fun g e e2=>own_apart h.ev (h.ea y hy) (by decide) g e2 e)
 have hlr:w3.ownsRow 0 66 2 R.log lg.length (encT lg):=own_fr h.lr hf (fun g e e2=>own_apart h.ev h.lr (by decide) g e2 e)
 have hxr:w3.ownsRow 0 25 1 x.2 x.1.args.length (encN .u32 x.1.args):=own_fr hx hf (fun g e e2=>hxo g e (.inr (.inl e2)))
 have hb3:=hm3.o.m
 have hmm:Mach (w3.setCell ⟨b,75,none⟩ v9) b K s vo { R with events:=v9 } M vt logs tou:=hm3.put (R':={ R with events:=v9 }) rfl (hb3.setEvents v9) rfl rfl
 have hr':w3.ownsRow 0 42 4 v9 (evs++[x]).length (encE (evs++[x])):=by rw [encE_append,List.length_append];exact hr
 have hfs:Fr w3 (w3.setCell ⟨b,75,none⟩ v9) (fun k=>k=b) (fun k=>k=b):=Fr.setCell w3 (F:=fun k=>k=b) (a:=⟨b,75,none⟩) rfl v9
 have hall:∀ y ∈ evs++[x],w3.ownsRow 0 25 1 y.2 y.1.args.length (encN .u32 y.1.args):=fun y hy=>(List.mem_append.1 hy).elim (hea y) (fun hy=>by rw [List.mem_singleton] at hy;subst hy;exact hxr)
 refine ⟨⟨hmm,own_fr hr' hfs (fun g e=>hb3.ne_own hr' (by decide) e),fun y hy=>own_fr (hall y hy) hfs (fun g e=>hb3.ne_own (hall y hy) (by decide) e),fun y hy g e e2=>?_,own_fr hlr hfs (fun g e=>hb3.ne_own hlr (by decide) e),h.ll,h.lv⟩,?_⟩
 ·rcases List.mem_append.1 hy with hy|hy
  ·exact h.eo y hy g e e2
  ·rw [List.mem_singleton] at hy;subst hy
   exact hxo g e (.inl (.inl (.inr e2)))
 ·refine (hf.mono (G:=allF b vo R M vt) (G1:=allF b vo { R with events:=v9 } M vt) (fun i e=>.inr (.inl e)) (fun i e=>?_)).trans (Fr.setCell w3 (F:=allF b vo { R with events:=v9 } M vt) (a:=⟨b,75,none⟩) (.inl (.inl (.inl rfl))) v9)
  rcases e with e|e|e
  ·exact .inl (.inl e)
  ·exact .inr e
  ·exact .inl (.inr (.inr e))
theorem sys_tail2 {c:Code} (hc:tlR 6 Tryz.f121.body=some c) {x2 x3 x4 x5 x7 x8 x9 x10 x11 x12 x13 x14 x15 x16 x17 x18 x19 x20 x21 x22 x23 x24 x25 x26 x27 x28 x29 x30 x31 x32 x33 x34 x35 x36 x37 x38 x39 x40 x41 x42 x43 x44 x45 x46 x47 x48 x49 x50 x51 x52 x53 x54 x55 x56 x57 x58 x59 x60 x61 x62 x63 x64 x65 x66 x67 x68 x69 x70 x71 x72 x73 x74 x75 x76 x77 x78 x79 x80 x81 x82 x83 x84 x85 x86 x87 x88 x89 x90:Value} {Φ:Ending→World→Prop}
 (h:MachX W b K s vo R M vt logs tou evs lg) (hh:Home w0 W (allF b vo R M vt)) (hg:GateAt w0 K.gate gr) {us:Value} {r:Rep} (hws:WsS W (allF b vo R M vt) us r.ws) (hrf:repFits r.ws=true)
 (hT:W.heap[q6]?=some (.cells #[.int .u32 r.val,us] 69 (0,0))) (hT9:¬ allF b vo R M vt q6)
 {l:List Nat} {y:Nat} (ho:s.ops=l++[y]) (hln:l.length≤65535) (hp9:s.pc<4294967295)
 (hΦ:∀ w' vo' vt',MachX w' b K { s with data:=applyN s.data r.ws,ops:=l++[r.val],pc:=s.pc+1 } vo' R M vt' logs (touL logs tou (applyT M.N r.ws)) evs lg →
  Fr W w' (allF b vo R M vt) (allF b vo' R M vt')→Φ (.returned (.tuple #[])) w') :
 Code.wp Tryz.prog c (bodyPost Tryz.prog Tryz.f121 Φ) ⟨#[.pointer (some ⟨b,0,none⟩),.int .u32 x,x2,x3,x4,x5,.pointer (some ⟨q6,0,none⟩),x7,x8,x9,x10,x11,x12,x13,x14,x15,x16,x17,x18,x19,x20,x21,x22,x23,x24,x25,x26,x27,x28,x29,x30,x31,x32,x33,x34,x35,x36,x37,x38,x39,x40,x41,x42,x43,x44,x45,x46,x47,x48,x49,x50,x51,x52,x53,x54,x55,x56,x57,x58,x59,x60,x61,x62,x63,x64,x65,x66,x67,x68,x69,x70,x71,x72,x73,x74,x75,x76,x77,x78,x79,x80,x81,x82,x83,x84,x85,x86,x87,x88,x89,x90],[]⟩ W:=by
 refine wp_tlR hc rfl ?_
 have hmx:Tryz.prog.follows .mixedOrders=true:=by kernel_rfl
 have k1:=h.m.o.m.cells.c1
 obtain ⟨gb,mp,hgv,-⟩:=id hg
 rw [hgv] at k1
 have k65:=h.m.c65
 obtain ⟨t0,t1⟩:=cells162 hT
 have HAp:=Lib.hid (apply_any' (hg.below hh.b.drew) (h.m.mem.below (Below.refl _ _).drew) ((hws.fr (Fr.of (Below.refl _ _).drew _)).sub (G:=memF M.p M.g vt) (fun k e=>.inl (.inr e))) hrf r.val)
 rw [hgv] at HAp
 have hlq:q6<W.heap.size:=(Array.getElem?_eq_some_iff.1 hT).1
 obtain ⟨ua,uc,rfl,-⟩:=id hws
 have hw:IntKind.u32.wrap ((s.pc:Int)+1)=(s.pc:Int)+1:=by rw [IntKind.wrap_u32];omega
 generalize r.ws.length=nws at *
 have HX:=Lib.hid h
 have HT:=Lib.hid hT
 have HT9:=Lib.hid hT9
 have HO:=Lib.hid ho
 have HΦ:=Lib.hid hΦ
 clear h hh hg hws hT hT9 ho hΦ
 go_wp2_with fail
 refine wp_region_still_tail 9 hmx (by kernel_rfl) ?_
 simp only [List.take_succ_cons,List.take_zero,List.drop_succ_cons,List.drop_zero]
 repeat still_step
 refine wpStill_nil ?_
 change wpList _ _ _ _ _ W.drew
 go_wp2_with fail
 refine HAp.out.mono ?_
 rintro e w2 ⟨rfl,vt2,m2,f2⟩
 have hf2:Fr W w2 (memF M.p M.g vt) (memF M.p M.g vt2):=((Fr.refl W _).drew).trans f2
 have hX2:=HX.out.act (HX.out.m.liftM m2 hf2) (frM hf2 b vo)
 have hT2:=hf2.row HT.out (fun e=>HT9.out (.inl (.inr e)))
 have HF2:=Lib.hid (frA (frM hf2 b vo) R)
 have HP:=Lib.hid (hX2.m.pop HO.out (by omega))
 have HX2:=Lib.hid hX2
 have HT2:=Lib.hid hT2
 have hq2:¬ machF b vo M vt2 q6:=fun e=>(HF2.out.foot q6 (.inl e)).elim HT9.out (fun e=>by omega)
 have HQ2:=Lib.hid hq2
 clear m2 f2 hf2 hX2 hT2 hq2 t0 t1 k1 k65
 go_wp2_with fail
 refine HP.out.mono ?_
 rintro e w3 ⟨rfl,vo3,m3,f3,-,-⟩
 have hX3:=HX2.out.act m3 f3
 have hT3:=f3.row HT2.out HQ2.out
 have HF3:=Lib.hid (frA f3 R)
 obtain ⟨t0,t1⟩:=cells162 hT3
 have HX3:=Lib.hid hX3
 have HU:=Lib.hid (m3.push (show l.length≤65536 by omega) r.val)
 clear m3 f3 hX3 hT3
 go_wp2_with fail
 refine HU.out.mono ?_
 rintro e w4 ⟨rfl,vo4,m4,f4⟩
 have hX4:=HX3.out.act m4 f4
 have HF4:=Lib.hid (frA f4 R)
 have c67:=hX4.m.o.m.cells.c67
 have cf:=hX4.m.o.m.cells.fz
 simp only [macV] at c67
 have HX4:=Lib.hid hX4
 clear m4 f4 hX4
 go_wp2_with fail
 go_end0
 have hm5:=HX4.out.m.setPc (s.pc+1)
 have hX5:=HX4.out.act hm5 (frB w4 b vo4 M vt2 67 _)
 refine HΦ.out _ vo4 vt2 (by simpa using hX5) ?_
 exact ((HF2.out.trans HF3.out).trans HF4.out).trans (frA (frB w4 b vo4 M vt2 67 _) R)
theorem sys_tail {c:Code} (hc:tlR 5 Tryz.f121.body=some c) {x2 x3 x4 x5 x8 x9 x10 x11 x12 x13 x14 x15 x16 x17 x18 x19 x20 x21 x22 x23 x24 x25 x26 x27 x28 x29 x30 x31 x32 x33 x34 x35 x36 x37 x38 x39 x40 x41 x42 x43 x44 x45 x46 x47 x48 x49 x50 x51 x52 x53 x54 x55 x56 x57 x58 x59 x60 x61 x62 x63 x64 x65 x66 x67 x68 x69 x70 x71 x72 x73 x74 x75 x76 x77 x78 x79 x80 x81 x82 x83 x84 x85 x86 x87 x88 x89 x90:Value} {Φ:Ending→World→Prop}
 (h:MachX W b K s vo R M vt logs tou evs lg) (hh:Home w0 W (allF b vo R M vt)) (hg:GateAt w0 K.gate gr) {us:Value} {r:Rep} (hws:WsS W (allF b vo R M vt) us r.ws) (hrf:repFits r.ws=true)
 (hT:W.heap[q6]?=some (.cells #[.int .u32 r.val,us] 69 (0,0))) (hT9:¬ allF b vo R M vt q6) {at_ num val:Nat} {aa:Option Addr} {args:List Nat} {ca:Nat} (hQ:W.heap[q]?=some (.cells #[.int .u32 at_,.int .u32 num,.slice aa args.length ca,.int .u32 val] 42 (0,0))) (hQ9:¬ allF b vo R M vt q)
 (hua:W.ownsRow 0 25 1 (.slice aa args.length ca) args.length (encN .u32 args)) (hul:∀ g,(Value.slice aa args.length ca).ownBlock=some g→¬ allF b vo R M vt g)
 {l:List Nat} {y:Nat} (ho:s.ops=l++[y]) (hln:l.length≤65535) (hp9:s.pc<4294967295) (hev:evs.length≤65536)
 (hΦ:∀ w' vo' vt' R',MachX w' b K { s with data:=applyN s.data r.ws,ops:=l++[r.val],pc:=s.pc+1 } vo' R' M vt' logs (touL logs tou (applyT M.N r.ws)) (evs++[(⟨at_,num,args,val⟩,.slice aa args.length ca)]) lg →
  R'.replies=R.replies→R'.on=R.on→R'.log=R.log→Fr W w' (allF b vo R M vt) (allF b vo' R' M vt')→Φ (.returned (.tuple #[])) w') :
 Code.wp Tryz.prog c (bodyPost Tryz.prog Tryz.f121 Φ) ⟨#[.pointer (some ⟨b,0,none⟩),.int .u32 x,x2,x3,x4,x5,.pointer (some ⟨q6,0,none⟩),.pointer (some ⟨q,0,none⟩),x8,x9,x10,x11,x12,x13,x14,x15,x16,x17,x18,x19,x20,x21,x22,x23,x24,x25,x26,x27,x28,x29,x30,x31,x32,x33,x34,x35,x36,x37,x38,x39,x40,x41,x42,x43,x44,x45,x46,x47,x48,x49,x50,x51,x52,x53,x54,x55,x56,x57,x58,x59,x60,x61,x62,x63,x64,x65,x66,x67,x68,x69,x70,x71,x72,x73,x74,x75,x76,x77,x78,x79,x80,x81,x82,x83,x84,x85,x86,x87,x88,x89,x90],[]⟩ W:=by
 refine wp_tlR hc rfl ?_
 have hmx:Tryz.prog.follows .mixedOrders=true:=by kernel_rfl
 have hbs:=run_bs60
 obtain ⟨ic,hic,hic0,hic1,hic2⟩:=info_parts inf62
 have k75:=h.m.o.m.c75
 simp only [macV] at k75
 obtain ⟨ea,ec,hev2,-⟩:=own_sl h.ev
 obtain ⟨c0,c1,c2,c3⟩:=cells62 hQ
 have HX:=Lib.hid h
 have HEV:=Lib.hid hev2
 have HER:=Lib.hid (own_below h.ev (Below.refl W.heap.size W).drew)
 rw [hev2] at k75 HER
 have hbl:b<W.heap.size:=h.m.lt
 have hql:q<W.heap.size:=(Array.getElem?_eq_some_iff.1 hQ).1
 have h63:evs.length+1≤maxLen:=by unfold maxLen;omega
 have h47:(evs.length+1) * 40≤140737488355328:=by omega
 obtain ⟨hcs,hbh,hbr⟩:=h.m.o.m
 have HBh:=Lib.hid hbh
 have HBr:=Lib.hid hbr
 have hbe:∀ g,(Value.slice ea evs.length ec).ownBlock=some g→g≠b:=fun g e e2=>h.m.o.m.not_own h.ev (by decide) (by rw [hev2,e,e2])
 have hqe:∀ g,(Value.slice ea evs.length ec).ownBlock=some g→g≠q:=fun g e e2=>hQ9 (.inr (.inl (by rw [hev2,e,e2])))
 have HBe:=Lib.hid hbe
 have HQe:=Lib.hid hqe
 have HHo:=Lib.hid hh
 have HG:=Lib.hid hg
 have HWs:=Lib.hid hws
 have HT:=Lib.hid hT
 have HQ:=Lib.hid hQ
 have HO:=Lib.hid ho
 have HUa:=Lib.hid hua
 have HT9:=Lib.hid hT9
 have HQ9:=Lib.hid hQ9
 have HUl:=Lib.hid hul
 have HΦ:=Lib.hid hΦ
 obtain ⟨ne,hne⟩:∃ ne,ne=evs.length:=⟨_,rfl⟩
 obtain ⟨na,hna⟩:∃ na,na=args.length:=⟨_,rfl⟩
 rw [← hne] at k75 HER h63 h47 HBe HQe
 rw [← hna] at c2
 have HNE:=Lib.hid hne
 have HNA:=Lib.hid hna
 clear h hev2 hQ hbh hbr hbe hqe hh hg hws hT hua hT9 hQ9 hul hΦ ho hne hna
 go_wp2_with fail
 go_region_law ((refine step_append_grew rfl (.tmp 62) (.tmp 64) 40 rfl 42 ic (.agg #[.int .u32 0,.int .u32 0,.slice none 0 0,.int .u32 0]) 4 40 Tryz.underlying40 hic hic0 hic1 hic2 rfl (by decide) _ _ _ rfl (own_base (own_below HER.out (Bel.new _ _))) ⟨_,0,none⟩ 1 1 [_,_,_,_] rfl rfl (news_new _ #[_,_,_,_] 42) ?_ ?_ ?_ ?_;(intro u hu;simp only [List.mem_cons,List.not_mem_nil,or_false] at hu;rcases hu with rfl|rfl|rfl|rfl <;> rfl);exact h63;exact h47;intro v3 w3 hr3 hg3 hn3;have HR3:=Lib.hid hr3;have HG3:=Lib.hid hg3;have hbh3:=(hg3.1.block b (by simp;omega) (fun e=>HBe.out _ e.symm rfl)).trans ((Below.heap_alloc W.drew _ _ hbl).trans HBh.out);have z75:=(cell_of_row w3 b 75 _ _ _ hbh3).trans HBr.out.c75;have zf:=frozen_of_row w3 b 75 _ _ hbh3;have HB3:=Lib.hid hbh3;obtain ⟨g3,c3',hv3,hb3,hl3⟩:=own_start hr3 (Nat.succ_pos _);subst hv3;clear hbh3 hr3 hg3 hn3))
 all_goals
  generalize hv9:Value.slice (some ⟨g3,0,none⟩) (ne+1) c3'=v9 at *
  obtain ⟨hX9,hF9⟩:=HX.out.grewEv (x:=(⟨at_,num,args,val⟩,.slice aa args.length ca)) (W1:=W.drew.alloc (.cells #[.int .u32 at_,.int .u32 num,.slice aa na ca,.int .u32 val] 42)) (Bel.tr (Below.refl _ _).drew (Bel.new _ _)) (by rw [HEV.out,← HNE.out];exact HG3.out) (by rw [← HNE.out];have:=HR3.out;rw [HNA.out] at this;exact this) HUa.out HUl.out
  obtain ⟨W4,hW4⟩:∃ W4,W4=w3.setCell ⟨b,75,none⟩ v9:=⟨_,rfl⟩
  rw [← hW4] at hX9 hF9 ⊢
  have hT4:=hF9.row HT.out HT9.out
  have hT94:¬ allF b vo { R with events:=v9 } M vt q6:=fun e=>(hF9.foot q6 e).elim HT9.out (fun e=>by have:=(Array.getElem?_eq_some_iff.1 HT.out).1;omega)
  clear hW4 z75 zf c0 c1 c2 c3 k75
  (try dsimp only)
  (try go_step)
  (try go_step)
  refine sys_tail2 ?_ hX9 (HHo.out.fr hF9) HG.out (HWs.out.fr hF9) hrf hT4 hT94 HO.out hln hp9 (fun w' vo' vt' hx' hf'=>HΦ.out w' vo' vt' _ hx' rfl rfl rfl (hF9.trans hf'))
  rfl
end
section
variable {w0 w w':World} {b:Nat} {K:MacK} {V:MacV} {s s':St} {vo vo':Value} {R:MacR} {M:MemK} {vt vt':Value} {logs:Bool} {tou tou':List (Nat×Bool)} {evs:List (Ev×Value)} {lg:List (Nat×Bool)} {gr:List (Nat×Int)}
theorem MacB.c72 (h:MacB w b K V):w.cell? ⟨b,72,none⟩=some (.bool V.on):=by
 obtain ⟨cs,h,r⟩:=h
 exact (cell_of_row w b 72 _ _ _ h).trans r.c72
theorem MacB.c73 (h:MacB w b K V):w.cell? ⟨b,73,none⟩=some V.log:=by
 obtain ⟨cs,h,r⟩:=h
 exact (cell_of_row w b 73 _ _ _ h).trans r.c73
theorem MacB.c74 (h:MacB w b K V):w.cell? ⟨b,74,none⟩=some V.replies:=by
 obtain ⟨cs,h,r⟩:=h
 exact (cell_of_row w b 74 _ _ _ h).trans r.c74
theorem MacB.setReplies (h:MacB w b K V) (v:Value):MacB (w.setCell ⟨b,74,none⟩ v) b K { V with replies:=v }:=by
 obtain ⟨cs,h,r⟩:=h
 exact ⟨_,heap_setCell_same w b 74 _ _ _ h,r.setReplies v⟩
theorem MacB.setLog (h:MacB w b K V) (v:Value):MacB (w.setCell ⟨b,73,none⟩ v) b K { V with log:=v }:=by
 obtain ⟨cs,h,r⟩:=h
 exact ⟨_,heap_setCell_same w b 73 _ _ _ h,r.setLog v⟩
theorem MachX.put {R':MacR} (h:MachX w b K s vo R M vt logs tou evs lg) {j:Nat} {v:Value} (hm:Mach (w.setCell ⟨b,j,none⟩ v) b K s' vo R' M vt logs tou) (h1:R'.events=R.events) (h2:R'.log=R.log):MachX (w.setCell ⟨b,j,none⟩ v) b K s' vo R' M vt logs tou evs lg:=by
 have hf:Fr w (w.setCell ⟨b,j,none⟩ v) (machF b vo M vt) (machF b vo M vt):=frB w b vo M vt j v
 refine ⟨hm,by rw [h1];exact own_fr h.ev hf h.ev_apart,fun x hx=>own_fr (h.ea x hx) hf (h.ea_apart x hx),h.eo,by rw [h2];exact own_fr h.lr hf h.lr_apart,h.ll,by rw [h2];exact h.lv⟩
theorem MachX.setReplies (h:MachX w b K s vo R M vt logs tou evs lg) (v:Value):MachX (w.setCell ⟨b,74,none⟩ v) b K s vo { R with replies:=v } M vt logs tou evs lg :=
 h.put (h.m.put (R':={ R with replies:=v }) rfl (h.m.o.m.setReplies v) rfl rfl) rfl rfl
theorem MachX.flt (h:MachX w b K s vo R M vt logs tou evs lg):∀ k,allF b vo R M vt k→k<w.heap.size:=by
 rintro k (((rfl|hk)|hk)|hk|hk)
 ·exact h.m.lt
 ·exact (h.m.o.o.lt k hk).2
 ·exact h.m.mem.flt k hk
 ·exact (h.ev.lt k hk).2
 ·exact (h.lr.lt k hk).2
def SysPost (w0:World) (b:Nat) (K:MacK) (s:St) (vo:Value) (R:MacR) (M:MemK) (vt:Value) (logs:Bool) (tou:List (Nat×Bool)) (evs:List (Ev×Value)) (lg:List (Nat×Bool)) (l:List Nat) (x n:Nat) (r:Rep) (rs:List Rep) (w:World) (e:Ending) (w':World):Prop :=
 e=.returned (.tuple #[])∧∃ vo' vt' R' ua,MachX w' b K { s with data:=applyN s.data r.ws,ops:=l++[r.val],pc:=s.pc+1 } vo' R' M vt' logs (touL logs tou (wordsT M.N s.sp n++applyT M.N r.ws)) (evs++[(⟨s.pc,x,wordsM s.data s.sp n,r.val⟩,ua)]) lg ∧
  RepsS w' (allF b vo' R' M vt') R'.replies rs∧R'.on=R.on∧R'.log=R.log∧Fr w w' (allF b vo R M vt) (allF b vo' R' M vt')
theorem system_yes (h:MachX w b K s vo R M vt logs tou evs lg) (hh:Home w0 w (allF b vo R M vt)) (hg:GateAt w0 K.gate gr) {x:Nat} (hx:x<4294967296) (hs:s.sp<4294967296) (hp9:s.pc<4294967295) {l:List Nat} {y:Nat} (ho:s.ops=l++[y]) (hln:l.length≤65535) {n:Nat} (hn:grantedN gr x=some (n:Int)) (hn15:n≤15)
 {r:Rep} {rs:List Rep} (hr:RepsS w (allF b vo R M vt) R.replies (r :: rs)) (hrf:repFits r.ws=true) (hev:evs.length≤65536) :
 Calls Tryz.prog 121 #[.pointer (some ⟨b,0,none⟩),.int .u32 x] w (SysPost w0 b K s vo R M vt logs tou evs lg l x n r rs w):=by
 have hmx:Tryz.prog.follows .mixedOrders=true:=by kernel_rfl
 obtain ⟨gb,mp,hgv,-⟩:=id hg
 have k1:=h.m.o.m.cells.c1
 rw [hgv] at k1
 have k65:=h.m.c65
 have k68:=h.m.o.m.cells.c68
 simp only [macV] at k68
 have hWd:=Lib.hid (words_yes (hg.below (hh.b.drew)) (h.m.mem.below (Below.refl _ _).drew) x s.sp hx hs hn hn15)
 rw [hgv] at hWd
 have HX:=Lib.hid h
 have HH:=Lib.hid hh
 have HG:=Lib.hid hg
 obtain ⟨av,acap,hrv,-,-,-,h4⟩:=id hr
 obtain ⟨rb0,ro0,us9,hav,-⟩:=h4 (by simp)
 rw [hrv,hav] at hr
 obtain ⟨rb,ro,us0,hra,hrn,hrc,hrm,⟨hrb,hrbF⟩,hrval,q0,q1,hws,hrt⟩:=hr.tail
 have hrv2:R.replies=.slice (some ⟨rb,ro,none⟩) (rs.length+1) acap:=by rw [hrv,hav,hra];rfl
 have HR:=Lib.hid hrt
 have HRV:=Lib.hid hrv2
 have HWs:=Lib.hid hws
 have hus:=hws
 obtain ⟨ua2,uc2,hus2,-⟩:=hus
 rw [hus2] at q1
 have HUS:=Lib.hid hus2
 generalize r.ws.length=nws at *
 obtain ⟨nrs,hnrs⟩:∃ nrs,nrs=rs.length:=⟨_,rfl⟩
 simp only [List.length_cons] at hrc
 rw [← hnrs] at hrc
 have HNR:=Lib.hid hnrs
 have hvo:∀ g,vo.ownBlock=some g→g<w.heap.size:=fun g e=>(h.m.o.o.lt g e).2
 have hro:∀ g,R.events.ownBlock=some g→g<w.heap.size:=fun g e=>(h.ev.lt g e).2
 have hlo:∀ g,R.log.ownBlock=some g→g<w.heap.size:=fun g e=>(h.lr.lt g e).2
 have HLt:=Lib.hid (And.intro h.m.lt (And.intro hvo (And.intro hro (And.intro hlo (And.intro h.m.mem.plt h.m.mem.glt)))))
 have hcap9:acap≤9223372036854775807:=by unfold maxLen at hrm;omega
 clear h hh hg hr hrv hav h4 hra hrt hrv2 hws hus2 hnrs hvo hro hlo
 go_enter Tryz.func121,Tryz.ntmps121
 go_wp2_with fail
 first|(go_region_held3 (fun W=>W.cell? ⟨b,1,none⟩=some (.pointer (some ⟨gb,0,none⟩))∧W.cell? ⟨b,65,none⟩=some (.pointer (some ⟨M.p,0,none⟩))∧W.cell? ⟨b,68,none⟩=some (.int .u32 s.sp))
  (first|assumption|exact ⟨by assumption,by assumption,by assumption⟩)
  ((go_at_call 66; refine hWd.out.mono ?_; rintro e w1 ⟨vt1, vw, rfl, hrow, hmem, hfr⟩; have hfr0 : Fr w w1 (memF M.p M.g vt) (wF M.p M.g vt1 vw) := ((Fr.refl w _).drew).trans hfr; have hX1 := HX.out.act (HX.out.m.liftM hmem hfr0) (hfr0.mono (G := machF b vo M vt) (G1 := machF b vo M vt1) (fun i e => .inr e) (fun i e => e.elim (fun e2 => .inl (.inl e2)) (fun e2 => .inr (.inl e2)))); have y1 := hX1.m.o.m.cells.c1; rw [hgv] at y1; have y65 := hX1.m.c65; have y68 := hX1.m.o.m.cells.c68; simp only [macV] at y68; have HX1 := Lib.hid hX1; have HRow := Lib.hid hrow; have HF1 := Lib.hid hfr0; clear hrow hmem hfr hfr0 hX1))) | fail "held"
 have hF1:Fr w w1 (allF b vo R M vt) (allF b vo R M vt1):=frA (HF1.out.mono (G:=machF b vo M vt) (G1:=machF b vo M vt1) (fun i e=>.inr e) (fun i e=>e.elim (fun e2=>.inl (.inl e2)) (fun e2=>.inr (.inl e2)))) R
 have hH1:=HH.out.fr hF1
 have hva:∀ g,vw.ownBlock=some g→¬ allF b vo R M vt1 g:=fun g hg hf=>by
  have h1:=(HRow.out.lt g hg).1
  have h2:w.heap.size≤g:=h1
  obtain ⟨i1,i2,i3,i4,i5,i6⟩:=HLt.out
  rcases hf with ((rfl|hf)|rfl|rfl|hf)|hf|hf
  ·omega
  ·have:=i2 g hf;omega
  ·omega
  ·omega
  ·exact own_apart (own_base HRow.out) HX1.out.m.mem.tr (by decide) g hg hf
  ·have:=i3 g hf;omega
  ·have:=i4 g hf;omega
 have HVA:=Lib.hid hva
 have HHo1:=Lib.hid hH1
 have HFr1:=Lib.hid hF1
 have p0:=(hF1.cell (p:=⟨rb,ro,none⟩) hrb hrbF).trans q0
 have p1:=(hF1.cell (p:=⟨rb,ro+1,none⟩) hrb hrbF).trans q1
 have k74:=HX1.out.m.o.m.c74
 have cf:=HX1.out.m.o.m.cells.fz
 simp only [macV] at k74
 rw [HRV.out,← HNR.out] at k74
 have hbl:b<w1.heap.size:=HX1.out.m.lt
 have hrb1:rb<w1.heap.size:=Nat.lt_of_lt_of_le hrb hF1.size
 have hrbb:rb≠b:=fun e=>hrbF (.inl (.inl (.inl e)))
 have hi0:(0:Int)<(nrs:Int)+1:=by omega
 have hi1:(1:Int)≤(nrs:Int)+1:=by omega
 have hi2:(nrs:Int)+1≤(acap:Int):=by omega
 have hi3:nrs+1≤acap:=hrc
 clear hF1 hH1 hva q0 q1 k1 k65 k68 y1 y65 y68
 go_wp2_with fail
 all_goals
  obtain ⟨vrt,hvrt⟩:∃ v,v=(if acap=1 then Value.slice (some ⟨rb,ro,none⟩) nrs 0 else Value.slice (some ⟨rb,ro+2,none⟩) nrs (acap - 1)):=⟨_,rfl⟩
  have HRT:RepsS w (allF b vo R M vt) vrt rs:=by
   rw [hvrt]
   by_cases h1:acap=1
   ·have e9:rs=[]:=by (have:=HNR.out;apply List.eq_nil_of_length_eq_zero;omega)
    subst e9
    have e8:nrs=0:=HNR.out
    rw [if_pos h1,e8]
    exact ⟨_,_,rfl,Nat.le_refl _,Nat.zero_le _,by simp,by simp⟩
   ·rw [if_neg h1,HNR.out];exact HR.out
  first
   | (have hA:Value.slice (some ⟨rb,ro+2,none⟩) nrs (acap - 1)=vrt:=(by rw [hvrt,if_neg (by assumption)])
      rw [hA])
   | (have hA:Value.slice (some ⟨rb,ro,none⟩) nrs 0=vrt:=(by rw [hvrt,if_pos (by assumption)])
      rw [hA])
  have HRTh:=Lib.hid HRT
  clear hvrt
  obtain ⟨W4,hW4⟩:∃ W4,W4=(w1.setCell ⟨b,74,none⟩ vrt).alloc (.cells #[.int .u32 r.val,.slice ua2 nws uc2] 69):=⟨_,rfl⟩
  have hszc:(w1.setCell ⟨b,74,none⟩ vrt).heap.size=w1.heap.size:=by simp [World.setCell]
  have hh4:W4.heap[w1.heap.size]?=some (.cells #[.int .u32 r.val,.slice ua2 nws uc2] 69 (0,0)):=by rw [hW4,← hszc];exact heap_alloc_new _ _
  have hX4:MachX W4 b K s vo { R with replies:=vrt } M vt1 logs (touL logs tou (wordsT M.N s.sp n)) evs lg:=by rw [hW4];exact (HX1.out.setReplies vrt).below (Bel.new _ _)
  have hF14:Fr w1 W4 (allF b vo R M vt1) (allF b vo { R with replies:=vrt } M vt1):=by rw [hW4];exact ((Fr.setCell w1 (F:=allF b vo R M vt1) (a:=⟨b,74,none⟩) (.inl (.inl (.inl rfl))) vrt).trans (Fr.of (Bel.new _ _) _))
  have hH4:=HHo1.out.fr hF14
  have hrow4:W4.ownsRow 0 25 1 vw n (encN .u32 (wordsM s.data s.sp n)):=own_fr (own_base HRow.out) hF14 (fun g e=>HVA.out g e)
  rw [← hW4]
  clear hW4 HRT p0 p1 k74 cf hszc
  have k1:=hX4.m.o.m.cells.c1
  rw [hgv] at k1
  have k67:=hX4.m.o.m.cells.c67
  simp only [macV] at k67
  obtain ⟨t0,t1⟩:=cells162 hh4
  have HX4:=Lib.hid hX4
  have HF4:=Lib.hid (HFr1.out.trans hF14)
  have HH4:=Lib.hid hH4
  have HT4:=Lib.hid hh4
  have hl4:w1.heap.size<W4.heap.size:=(Array.getElem?_eq_some_iff.1 hh4).1
  have hb4:b<W4.heap.size:=hX4.m.lt
  have HWs4:=Lib.hid (HWs.out.fr HF4.out)
  have HEv:=Lib.hid (fun W (hW:Below W4.heap.size W4 W)=>event_any (w:=W) (v:=K.gate) (gr:=gr) (at_:=s.pc) (val:=r.val) (HG.out.below (Bel.tr hH4.b hW)) hx hn (own_below hrow4 hW) (wordsM_length _ _ _) hn15 (HWs4.out.at_.below hW) hrf)
  rw [hgv,HUS.out] at HEv
  have HRoB:=Lib.hid (And.intro (fun g e=>(hX4.ev.lt g e).2:∀ g,R.events.ownBlock=some g→g<W4.heap.size) hX4.m.lt)
  clear hX4 hF14 hH4 hrow4 hh4
  have hH9:(W4.drew.cell? ⟨b,1,none⟩=some (.pointer (some ⟨gb,0,none⟩))∧W4.drew.cell? ⟨b,67,none⟩=some (.int .u32 s.pc))∧(W4.drew.cell? ⟨w1.heap.size,0,none⟩=some (.int .u32 r.val)∧W4.drew.cell? ⟨w1.heap.size,1,none⟩=some (.slice ua2 nws uc2)):=⟨⟨k1,k67⟩,⟨t0,t1⟩⟩
  have HKp:=Lib.hid (fun (W W':World) (hs:W4.heap.size≤W.heap.size) (h:(W.cell? ⟨b,1,none⟩=some (.pointer (some ⟨gb,0,none⟩))∧W.cell? ⟨b,67,none⟩=some (.int .u32 s.pc))∧(W.cell? ⟨w1.heap.size,0,none⟩=some (.int .u32 r.val)∧W.cell? ⟨w1.heap.size,1,none⟩=some (.slice ua2 nws uc2))) (hb:Below W.heap.size W W')=>(⟨⟨(hb.cell (p:=⟨b,1,none⟩) (Nat.lt_of_lt_of_le hb4 hs)).trans h.1.1,(hb.cell (p:=⟨b,67,none⟩) (Nat.lt_of_lt_of_le hb4 hs)).trans h.1.2⟩,⟨(hb.cell (p:=⟨w1.heap.size,0,none⟩) (Nat.lt_of_lt_of_le hl4 hs)).trans h.2.1,(hb.cell (p:=⟨w1.heap.size,1,none⟩) (Nat.lt_of_lt_of_le hl4 hs)).trans h.2.2⟩⟩:(W'.cell? ⟨b,1,none⟩=some (.pointer (some ⟨gb,0,none⟩))∧W'.cell? ⟨b,67,none⟩=some (.int .u32 s.pc))∧(W'.cell? ⟨w1.heap.size,0,none⟩=some (.int .u32 r.val)∧W'.cell? ⟨w1.heap.size,1,none⟩=some (.slice ua2 nws uc2))))
  refine wp_region_held_drew (S:=(fun W=>(W.cell? ⟨b,1,none⟩=some (.pointer (some ⟨gb,0,none⟩))∧W.cell? ⟨b,67,none⟩=some (.int .u32 s.pc))∧(W.cell? ⟨w1.heap.size,0,none⟩=some (.int .u32 r.val)∧W.cell? ⟨w1.heap.size,1,none⟩=some (.slice ua2 nws uc2)))) hmx hH9 (fun hHeld=>?_)
  refine tk 0 hHeld ?_
  refine tk 1 hHeld ?_
  refine tk 2 hHeld ?_
  refine tk 3 hHeld ?_
  refine tk 4 hHeld ?_
  refine tk 5 hHeld ?_
  refine tk 6 hHeld ?_
  refine tk 7 hHeld ?_
  refine tk 8 hHeld ?_
  refine tk 9 hHeld ?_
  refine tk 10 hHeld ?_
  refine wpAnyH_ready (rs:=[11,15]) (by kernel_rfl) (by simp) (AllReadyH.cons rfl (fun K hK=>?_) (AllReadyH.cons rfl (fun K hK=>?_) AllReadyH.nil))
  ·go_simp
   refine (HEv.out W4.drew (Below.refl _ _).drew).mono ?_
   rintro e w5 ⟨va,rfl,hown,hb5⟩
   obtain ⟨aa,ca,hva2,-⟩:=own_sl hown
   subst hva2
   have hB5:Below W4.heap.size W4 w5:=Bel.tr (Below.refl W4.heap.size W4).drew hb5
   have hH5:=HKp.out W4.drew w5 (Nat.le_refl _) hHeld hb5
   refine hK.out _ _ hH5 (fun _=>?_)
   clear hK K
   try simp only [Act.put,aT,aZ,aS]
   refine tk 12 hH5 ?_
   refine tk 13 hH5 ?_
   refine tk 14 hH5 ?_
   refine rd 15 _ fun K hK=>?_
   go_simp
   have hb6:=Bel.new w5 (.cells #[.int .u32 0,.int .u32 0,.slice none 0 0,.int .u32 0] 42)
   have hH6:=HKp.out w5 _ hB5.size hH5 hb6
   refine hK.out _ _ hH6 (fun _=>?_)
   clear hK K
   try simp only [Act.put,aT,aZ,aS]
   have hr6:(w5.alloc (.cells #[.int .u32 0,.int .u32 0,.slice none 0 0,.int .u32 0] 42)).heap[w5.heap.size]?=_:=heap_alloc_new w5 _
   obtain ⟨W6,hW6⟩:∃ W6,W6=w5.alloc (.cells #[.int .u32 0,.int .u32 0,.slice none 0 0,.int .u32 0] 42):=⟨_,rfl⟩
   rw [← hW6] at hr6 hH6 hb6 ⊢
   have hO6:=own_below hown hb6
   have hB6:=Bel.tr hB5 hb6
   obtain ⟨q,hq⟩:∃ q,q=w5.heap.size:=⟨_,rfl⟩
   rw [← hq] at hr6 ⊢
   have hq4:W4.heap.size≤q:=by rw [hq];exact hB5.size
   have hqo:∀ g,(Value.slice aa (wordsM s.data s.sp n).length ca).ownBlock=some g→g≠q:=fun g e=>by have:=(hown.lt g e).2;omega
   have hOl:∀ g,(Value.slice aa (wordsM s.data s.sp n).length ca).ownBlock=some g→W4.heap.size≤g:=fun g e=>(hown.lt g e).1
   clear hW6 hb6 hown hb5 hB5 hq hH5
   have hrow7:(W6.setRow q #[.int .u32 s.pc,.int .u32 x,.slice aa (wordsM s.data s.sp n).length ca,.int .u32 r.val]).heap[q]?=some (.cells #[.int .u32 s.pc,.int .u32 x,.slice aa (wordsM s.data s.sp n).length ca,.int .u32 r.val] 42 (0,0)):=setRow_heap _ _ _ _ _ _ hr6
   have hB7:Below W4.heap.size W4 (W6.setRow q #[.int .u32 s.pc,.int .u32 x,.slice aa (wordsM s.data s.sp n).length ca,.int .u32 r.val]):=below_setRow hB6 _ hq4 _
   have hO7:(W6.setRow q #[.int .u32 s.pc,.int .u32 x,.slice aa (wordsM s.data s.sp n).length ca,.int .u32 r.val]).ownsRow 0 25 1 (.slice aa (wordsM s.data s.sp n).length ca) (wordsM s.data s.sp n).length (encN .u32 (wordsM s.data s.sp n)):=by
    have h0:=own_base hO6
    rcases h0.2 with ⟨e1,e2⟩|⟨g',cap',cur,e1,hbb,hg',rest⟩
    ·exact ⟨h0.1,.inl ⟨e1,e2⟩⟩
    ·exact ⟨h0.1,.inr ⟨g',cap',cur,e1,hbb,(setRow_other _ _ _ _ (hqo g' (by rw [e1];rfl))).trans hg',rest⟩⟩
   have hH7:=HKp.out W4 (W6.setRow q #[.int .u32 s.pc,.int .u32 x,.slice aa (wordsM s.data s.sp n).length ca,.int .u32 r.val]) (Nat.le_refl _) hHeld hB7
   refine rd 16 _ fun K hK=>?_
   rw [if_pos (by rfl)]
   refine outs_wp (R:=fun v W'=>v=undef∧W'=W6.setRow q #[.int .u32 s.pc,.int .u32 x,.slice aa (wordsM s.data s.sp n).length ca,.int .u32 r.val]) (outs_store_row 42 (.tmp 7) (.tmp 56) rfl q _ rfl rfl 42 _ hr6 info62 (by rfl) (by simp [Value.oneCell']) ⟨rfl,rfl⟩) ?_
   rintro _ _ ⟨rfl,rfl⟩
   refine hK.out _ _ hH7 (fun _=>?_)
   clear hK K
   try simp only [Act.put,aT,aZ,aS]
   refine tk 17 hH7 ?_
   refine wpAnyH_done (by kernel_rfl) ?_ _
   obtain ⟨W7,hW7⟩:∃ W7,W7=W6.setRow q #[.int .u32 s.pc,.int .u32 x,.slice aa (wordsM s.data s.sp n).length ca,.int .u32 r.val]:=⟨_,rfl⟩
   rw [← hW7] at hrow7 hB7 hO7 hH7 ⊢
   clear hW7 hr6 hO6 hB6 hH6 hqo hHeld hH9
   have hX7:=HX4.out.below hB7
   have hT7:=(hB7.block _ hl4).trans HT4.out
   have hQ7:¬ allF b vo { R with replies:=vrt } M vt1 q:=fun e=>by have:=HX4.out.flt q e;omega
   have hT97:¬ allF b vo { R with replies:=vrt } M vt1 w1.heap.size:=fun e=>by have:=HX1.out.flt w1.heap.size e;omega
   have hH47:=HH4.out.fr (Fr.of hB7 _)
   have hU7:∀ g,(Value.slice aa (wordsM s.data s.sp n).length ca).ownBlock=some g→¬ allF b vo { R with replies:=vrt } M vt1 g:=fun g e e2=>by have h1:=HX4.out.flt g e2;have h2:=hOl g e;omega
   have hws7:WsS W7 (allF b vo { R with replies:=vrt } M vt1) (.slice ua2 nws uc2) r.ws:=by rw [← HUS.out];exact HWs4.out.fr (Fr.of hB7 _)
   have HF47:=Lib.hid (HF4.out.trans (Fr.of hB7 _))
   clear hB7 hOl hH7 k1 k67 t0 t1
   (try dsimp only)
   (try go_step)
   (try go_step)
   refine sys_tail ?_ hX7 hH47 HG.out hws7 hrf hT7 hT97 hrow7 hQ7 hO7 hU7 ho hln hp9 hev (fun w' vo' vt' R' hx' e1 e2 e3 hf'=>?_)
   ·rfl
   refine ⟨rfl,vo',vt',R',_,by rw [touL_touL] at hx';exact hx',by rw [e1];exact HRTh.out.fr (HF47.out.trans hf'),e2,e3,HF47.out.trans hf'⟩
  ·go_simp
   have hb6:=(Bel.new W4 (.cells #[.int .u32 0,.int .u32 0,.slice none 0 0,.int .u32 0] 42)).drew
   have hH6a:=HKp.out W4 _ (Nat.le_refl _) hHeld hb6
   refine hK.out _ _ hH6a (fun _=>?_)
   clear hK K
   try simp only [Act.put,aT,aZ,aS]
   have hr6a:((W4.alloc (.cells #[.int .u32 0,.int .u32 0,.slice none 0 0,.int .u32 0] 42)).drew).heap[W4.heap.size]?=_:=heap_alloc_new W4 _
   obtain ⟨W5,hW5⟩:∃ W5,W5=(W4.alloc (.cells #[.int .u32 0,.int .u32 0,.slice none 0 0,.int .u32 0] 42)).drew:=⟨_,rfl⟩
   rw [← hW5] at hr6a hH6a hb6 ⊢
   have hB5:Below W4.heap.size W4 W5:=hb6
   clear hW5 hb6
   refine rd 11 _ fun K hK=>?_
   go_simp
   refine (HEv.out W5 hB5).mono ?_
   rintro e W6 ⟨va,rfl,hown,hb5⟩
   obtain ⟨aa,ca,hva2,-⟩:=own_sl hown
   subst hva2
   have hH6:=HKp.out W5 W6 hB5.size hH6a hb5
   refine hK.out _ _ hH6 (fun _=>?_)
   clear hK K
   try simp only [Act.put,aT,aZ,aS]
   refine tk 12 hH6 ?_
   refine tk 13 hH6 ?_
   refine tk 14 hH6 ?_
   obtain ⟨q,hq⟩:∃ q,q=W4.heap.size:=⟨_,rfl⟩
   have hl5:=(Array.getElem?_eq_some_iff.1 hr6a).1
   have hr6:=(hb5.block _ hl5).trans hr6a
   rw [← hq] at hr6 ⊢
   have hO6:=hown
   have hB6:=Bel.tr hB5 hb5
   have hq4:W4.heap.size≤q:=by omega
   have hqo:∀ g,(Value.slice aa (wordsM s.data s.sp n).length ca).ownBlock=some g→g≠q:=fun g e=>by have:=(hown.lt g e).1;omega
   have hOl:∀ g,(Value.slice aa (wordsM s.data s.sp n).length ca).ownBlock=some g→W4.heap.size≤g:=fun g e=>Nat.le_trans hB5.size (hown.lt g e).1
   clear hown hb5 hB5 hr6a hl5 hq hH6a
   have hrow7:(W6.setRow q #[.int .u32 s.pc,.int .u32 x,.slice aa (wordsM s.data s.sp n).length ca,.int .u32 r.val]).heap[q]?=some (.cells #[.int .u32 s.pc,.int .u32 x,.slice aa (wordsM s.data s.sp n).length ca,.int .u32 r.val] 42 (0,0)):=setRow_heap _ _ _ _ _ _ hr6
   have hB7:Below W4.heap.size W4 (W6.setRow q #[.int .u32 s.pc,.int .u32 x,.slice aa (wordsM s.data s.sp n).length ca,.int .u32 r.val]):=below_setRow hB6 _ hq4 _
   have hO7:(W6.setRow q #[.int .u32 s.pc,.int .u32 x,.slice aa (wordsM s.data s.sp n).length ca,.int .u32 r.val]).ownsRow 0 25 1 (.slice aa (wordsM s.data s.sp n).length ca) (wordsM s.data s.sp n).length (encN .u32 (wordsM s.data s.sp n)):=by
    have h0:=own_base hO6
    rcases h0.2 with ⟨e1,e2⟩|⟨g',cap',cur,e1,hbb,hg',rest⟩
    ·exact ⟨h0.1,.inl ⟨e1,e2⟩⟩
    ·exact ⟨h0.1,.inr ⟨g',cap',cur,e1,hbb,(setRow_other _ _ _ _ (hqo g' (by rw [e1];rfl))).trans hg',rest⟩⟩
   have hH7:=HKp.out W4 (W6.setRow q #[.int .u32 s.pc,.int .u32 x,.slice aa (wordsM s.data s.sp n).length ca,.int .u32 r.val]) (Nat.le_refl _) hHeld hB7
   refine rd 16 _ fun K hK=>?_
   rw [if_pos (by rfl)]
   refine outs_wp (R:=fun v W'=>v=undef∧W'=W6.setRow q #[.int .u32 s.pc,.int .u32 x,.slice aa (wordsM s.data s.sp n).length ca,.int .u32 r.val]) (outs_store_row 42 (.tmp 7) (.tmp 56) rfl q _ rfl rfl 42 _ hr6 info62 (by rfl) (by simp [Value.oneCell']) ⟨rfl,rfl⟩) ?_
   rintro _ _ ⟨rfl,rfl⟩
   refine hK.out _ _ hH7 (fun _=>?_)
   clear hK K
   try simp only [Act.put,aT,aZ,aS]
   refine tk 17 hH7 ?_
   refine wpAnyH_done (by kernel_rfl) ?_ _
   obtain ⟨W7,hW7⟩:∃ W7,W7=W6.setRow q #[.int .u32 s.pc,.int .u32 x,.slice aa (wordsM s.data s.sp n).length ca,.int .u32 r.val]:=⟨_,rfl⟩
   rw [← hW7] at hrow7 hB7 hO7 hH7 ⊢
   clear hW7 hr6 hO6 hB6 hH6 hqo hHeld hH9
   have hX7:=HX4.out.below hB7
   have hT7:=(hB7.block _ hl4).trans HT4.out
   have hQ7:¬ allF b vo { R with replies:=vrt } M vt1 q:=fun e=>by have:=HX4.out.flt q e;omega
   have hT97:¬ allF b vo { R with replies:=vrt } M vt1 w1.heap.size:=fun e=>by have:=HX1.out.flt w1.heap.size e;omega
   have hH47:=HH4.out.fr (Fr.of hB7 _)
   have hU7:∀ g,(Value.slice aa (wordsM s.data s.sp n).length ca).ownBlock=some g→¬ allF b vo { R with replies:=vrt } M vt1 g:=fun g e e2=>by have h1:=HX4.out.flt g e2;have h2:=hOl g e;omega
   have hws7:WsS W7 (allF b vo { R with replies:=vrt } M vt1) (.slice ua2 nws uc2) r.ws:=by rw [← HUS.out];exact HWs4.out.fr (Fr.of hB7 _)
   have HF47:=Lib.hid (HF4.out.trans (Fr.of hB7 _))
   clear hB7 hOl hH7 k1 k67 t0 t1
   (try dsimp only)
   (try go_step)
   (try go_step)
   refine sys_tail ?_ hX7 hH47 HG.out hws7 hrf hT7 hT97 hrow7 hQ7 hO7 hU7 ho hln hp9 hev (fun w' vo' vt' R' hx' e1 e2 e3 hf'=>?_)
   ·rfl
   refine ⟨rfl,vo',vt',R',_,by rw [touL_touL] at hx';exact hx',by rw [e1];exact HRTh.out.fr (HF47.out.trans hf'),e2,e3,HF47.out.trans hf'⟩
end
section
variable {w0 w w':World} {b:Nat} {K:MacK} {s s':St} {vo vo':Value} {R:MacR} {M:MemK} {vt vt':Value} {logs:Bool} {tou tou':List (Nat×Bool)} {evs:List (Ev×Value)} {lg:List (Nat×Bool)} {gr:List (Nat×Int)}
theorem system_no (h:Mach w b K s vo R M vt logs tou) (hb0:Below w0.heap.size w0 w) (hg:GateAt w0 K.gate gr) {x:Nat} (hx:x<4294967296) (hn:grantedN gr x=none) :
 Calls Tryz.prog 121 #[.pointer (some ⟨b,0,none⟩),.int .u32 x] w fun e w'=>e=.panicked (fltV 8)∧Below w.heap.size w w':=by
 have hmx:Tryz.prog.follows .mixedOrders=true:=by kernel_rfl
 obtain ⟨gb,mp,hgv,-⟩:=id hg
 have k1:=h.o.m.cells.c1
 rw [hgv] at k1
 have k65:=h.c65
 have k68:=h.o.m.cells.c68
 simp only [macV] at k68
 have hWd:=Lib.hid (fun vm=>words_no (hg.below hb0.drew) x s.sp hx hn vm)
 rw [hgv] at hWd
 clear h hg
 go_enter Tryz.func121,Tryz.ntmps121
 go_wp2_with fail
 first|(go_region_held3 (fun W=>W.cell? ⟨b,1,none⟩=some (.pointer (some ⟨gb,0,none⟩))∧W.cell? ⟨b,65,none⟩=some (.pointer (some ⟨M.p,0,none⟩))∧W.cell? ⟨b,68,none⟩=some (.int .u32 s.sp))
  (first|assumption|exact ⟨by assumption,by assumption,by assumption⟩)
  ((go_at_call 66; refine (hWd.out _).mono ?_; rintro e w1 ⟨rfl, rfl⟩))) | fail "held"
 go_wp2_with fail
 exact ⟨rfl,rfl,(Below.refl _ _).drew⟩
theorem call_sys {l:List Nat} {y:Nat} (h:Mach w b K s vo R M vt logs tou) (ho:s.ops=l++[y]) (hn:l.length≤65535) (hy:2147483648≤y) (hy9:y<4294967296) (o a:Nat) {Φ:Ending→World→Prop}
 (HS:∀ W,Below w.heap.size w W→Calls Tryz.prog 121 #[.pointer (some ⟨b,0,none⟩),.int .u32 (4294967295 - y:Nat)] W fun e w'=>(e=.returned (.tuple #[]) ∨ ∃ c,e=.panicked c)∧Φ e w') :
 Calls Tryz.prog 75 #[.pointer (some ⟨b,0,none⟩),.agg #[.int .u8 o,.int .u32 a]] w Φ:=by
 have hmx:Tryz.prog.follows .mixedOrders=true:=by kernel_rfl
 obtain ⟨W1,hW1⟩:∃ W1,W1=w.alloc (.cells #[.int .u8 o,.int .u32 a] 106):=⟨_,rfl⟩
 have hb1:Below w.heap.size w W1:=by rw [hW1];exact Bel.new _ _
 obtain ⟨g,cap,hv,k0⟩:=(h.below hb1).top1 ho
 have c69:=(h.below hb1).o.m.cells.c69
 simp only [macV] at c69
 rw [hv] at c69
 generalize l.length=n at *
 have e1:(((n+1:Nat):Int)) - 1=(n:Int):=by omega
 have w1:IntKind.i64.wrap (n:Int)=(n:Int):=IntWalk.i64_in _ (by omega)
 have hlt1:(n:Int)<(n:Int)+1:=by omega
 have hlt2:n<n+1:=by omega
 have hn1:(0:Int)≤(n:Int):=by omega
 have HG:=Lib.hid (fun W=>gnumber_any y hy9 W)
 rw [if_pos hy,decide_eq_true hy] at HG
 generalize 4294967295 - y=x at *
 have HB1:=Lib.hid hb1
 have HSh:=Lib.hid HS
 clear h ho hv hb1 HS
 go_enter Tryz.func75,Tryz.ntmps75
 go_wp2_with fail
 rw [← hW1]
 clear hW1
 go_quiet (fail)
 have hb2:Below w.heap.size w (W1.drewN nq):=below_drewN HB1.out nq
 clear c69 k0
 obtain ⟨W2,hW2⟩:∃ W2,W2=W1.drewN nq:=⟨_,rfl⟩
 rw [← hW2] at hb2 ⊢
 have HS2:=Lib.hid (HSh.out W2 hb2)
 clear hW2 hb2
 go_wp2_with fail
 refine (HG.out _).mono ?_
 rintro e W3 ⟨rfl,rfl⟩
 go_wp2_with fail
 refine HS2.out.mono ?_
 rintro e w9 ⟨rfl|⟨ch,rfl⟩,hΦ⟩
 ·have HΦ:=Lib.hid hΦ
  clear hΦ
  go_wp2_with fail
  refine bodyPost_ret (v:=.tuple #[]) (results_none Tryz.results75 _ _ _) rfl ?_
  exact HΦ.out
 ·exact ⟨rfl,hΦ⟩
end
end Go.Proofs.YtdffaepbkecoeaaGreat
