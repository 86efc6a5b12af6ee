import Derived.Test.YtmpkejflgpodkaaGreatDoorP26
import Derived.Test.YtmpkejflgpodkaaGreatDoorP25
import Derived.Test.YtmpkejflgpodkaaGreatDoorP20
set_option maxHeartbeats 8000000
set_option maxRecDepth 20000
set_option linter.unusedVariables false
set_option linter.unusedSimpArgs false
namespace Go.Proofs.YtmpkejflgpodkaaGreatDoor
open Go.ChangeShapes Go.WideShapes Go.ChangeAt Go.RowKit Go.Proofs.Tryz
variable{b:Nat}{v':Value}{x:OpI}
def fF(K:List OpI)(obj n:Rf):Bool:=decide (0<(atJ K (obj,⟨#[]⟩,n)).length)
def eE(K:List OpI)(obj:Rf)(N:Int):List Rf:=(gQ K obj N (0,0)).filter (fF K obj)
theorem atJ_len(K:List OpI)(w:Wh):(atJ K w).length≤K.length:=atG_len K w K.length
theorem sSeen_any{K:List OpI}{N:Int}(hK:KTree K N)(o1 o2:Int)(A:Option Addr)(c n:Nat)(w:World)(hr:OpsR (fun k=>k<w) w A K)(hl:K.length≤50000)(hn:N<n)(hwf:∀x∈K,IntKind.i64.wrap x.1.vn=x.1.vn)(hkd:∀x∈K,1≤x.1.k): Calls prog 13 #[.agg #[.slice A K.length c],.agg #[o1,o2]] w fun e w'=>∃v,e=.returned v∧w'.ownsRow w 24 2 v (eE K (o1,o2) N).length (aF (eE K (o1,o2) N))∧Below w w w':=by obtain⟨nK,hnK⟩:=QX K.length;have HNK:=Hi hnK;have HWF:=Hi hwf;have HKD:=Hi hkd;have hsub:=hK.sub_eq (obj:=(o1,o2)) (n:=n) (el:=(0,0)) (by show N-0<n;omega);have hall:=(hK.all (obj:=(o1,o2))).2.1;have hb1:Below w w (w.alloc (.cells #[.slice A nK c] 31)):=(sD _ w).alloc (sE _) _;have h1:=Blk.new w 31 #[.slice A nK c];have hb2:Below w w ((w.alloc (.cells #[.slice A nK c] 31)).alloc (.cells #[o1,o2] 24)):=hb1.alloc hb1.size _;have h2:=Blk.new (w.alloc (.cells #[.slice A nK c] 31)) 24 #[o1,o2];have H1:=Hi (h1.keep (sX _ (.cells #[o1,o2] 24) _ h1.lt));have H2:=Hi h2;have HB:=Hi hb2;have HR:=Hi (hr.below hb2);have C1:=sElems_any hK o1 o2 A c n _ (hr.below hb2).row QZ hn (by rw[hsub];omega);rw[hsub]at C1;rw[sW]at H2;rw[hnK]at C1 hl ⊢;obtain⟨S,hS⟩:=QX (gQ K (o1,o2) N (0,0));have HS:Hid (eE K (o1,o2) N=S.filter (fF K (o1,o2))):=(by show _=_;unfold eE;rw[hS]);rw[hS]at C1 hall;have HSL:Hid (S.length≤50001):=(by show _≤_;omega);clear hr hwf hkd hnK hb1 hb2 h1 h2 hsub hS hall;go_enter func13,ntmps13;go_upto_region 1 with fail;generalize (w.alloc (.cells #[.slice A nK c] 31)).alloc (.cells #[o1,o2] 24)=w1 at H1 H2 HB HR C1 ⊢;obtain⟨B,hB⟩:=QX w.heap.size;have HBB:=Hi hB;rw[hB]at H1 H2 HB ⊢;clear hB;have HBL:Hid (B≤w1.heap.size):=(by have h:=HB.o.size;rw[HBB.o]at h;exact h);have j0:=cZ H1.o 0 rfl;obtain⟨q0,q1⟩:=ce2 H2.o;go_wp2_with fail;go_at_call 9;refine C1.mono ?_;rintro e w2 ⟨v2,rfl,ho2,hb2⟩;have HB2:Hid (Below B w w2):=HB.o.trans (hb2.mono HBL.o);have HBL2:Hid (B≤w2.heap.size):=tD HBL.o hb2.size;have H12:=QY H1 hb2;have H22:=QY H2 hb2;have HR2:=Hi (HR.o.below hb2);obtain⟨A2,c2,hv2,-,-,hr2⟩:=aA.of_own ho2;have HRS:Hid (aA (fun k=>k<w2) w2 2 A2 S.length (aF S)):=hr2.more fun k hk=>(aC ho2 hk).2;obtain⟨m,hm⟩:=QX S.length;have HM:=Hi hm;subst hv2;rw[hm]at HRS HSL ⊢;clear C1 j0 q0 q1 ho2 hb2 hr2 hm H1 H2 HB HR HBL;have hms:m≤50001:=HSL.o;go_upto_region 4 with fail;go_loopw [6,7,8,9] (fun s6 s7 _ _ wr=>∃(i:Nat) (v6:Value),v6=s6∧s7=.int .i64 i∧i≤m∧Hid (wr.ownsRow w2 24 2 v6 ((S.take i).filter (fF K (o1,o2))).length (aF ((S.take i).filter (fF K (o1,o2)))))∧Hid (Below w2 w2 wr)) (fun _ s7 _ _ _=>m-(intOf s7).toNat);(case atStart=>exact⟨0,_,rfl,rfl,by omega,bB _ _ _ _,sD _ _⟩);(case round =>obtain⟨i,v6,rfl,rfl,hi,HO,HW⟩:=hrel;by_cases hlt:i<m;(·obtain⟨⟨y1,y2⟩,hy⟩:∃y,S[i]?=some y:=⟨_,sG (by rw[HM.o];exact hlt)⟩;obtain⟨bs,os,rfl,-,hc1⟩:=(aE (by exact HRS.o) HW.o).at_ QZ QZ;have z1:wr.cell? ⟨bs,os+i*2,none⟩=some (.int .i64 y1):=hc1 _ _ (aL hy).1;have z2:wr.cell? ⟨bs,os+i*2+1,none⟩=some (.int .i64 y2):=(by have:=hc1 _ _ (aL hy).2;rw[←uI]at this;exact this);have HZ:Hid (∀V,Below wr wr V→V.cell? ⟨bs,os+i*2,none⟩=some (.int .i64 y1)∧V.cell? ⟨bs,os+i*2+1,none⟩=some (.int .i64 y2)):=fun V hv=>⟨(hv.cell (sK wr _ z1)).trans z1,(hv.cell (sK wr _ z2)).trans z2⟩;have j0:=cZ (H12.o.keep (HW.o.block _ H12.o.lt)) 0 rfl;obtain⟨q0,q1⟩:=ce2 (H22.o.keep (HW.o.block _ H22.o.lt));have C2:=pF K o1 o2 ⟨#[]⟩ y1 y2 A c wr.drew (HR2.o.below (HW.o.drew)) (by rw[HNK.o];omega) HWF.o HKD.o;obtain⟨ml,hml⟩:=QX ((atJ K ((o1,o2),⟨#[]⟩,(y1,y2))).length);have HTK:Hid ((S.take (i+1)).filter (fF K (o1,o2))=(S.take i).filter (fF K (o1,o2))++if 0<ml then [(y1,y2)] else []):=(by show _=_;rw[sY,hy,vA];congr 1;unfold fF;rw[←hml];by_cases h:0<(atJ K ((o1,o2),⟨#[]⟩,(y1,y2))).length;(·simp[h]);(·simp[h]));rw[hml,HNK.o]at C2;have HLT:=Hi hlt;obtain⟨F,hF⟩:=QX ((S.take i).filter (fF K (o1,o2)));have HFL:Hid (F.length≤100000):=(by have h1:=vE (fF K (o1,o2)) (S.take i);rw[hF,tH]at h1;show _≤_;omega);rw[hF]at HO HTK;clear hy hc1 hml hF;have KS:∀V,Below wr.drew.heap.size wr.drew V→V.cell? ⟨B,0,none⟩=some (.slice A nK c)∧V.cell? ⟨B+1,0,none⟩=some (.int .i64 o1)∧V.cell? ⟨B+1,1,none⟩=some (.int .i64 o2)∧V.cell? ⟨bs,os+i*2,none⟩=some (.int .i64 y1)∧V.cell? ⟨bs,os+i*2+1,none⟩=some (.int .i64 y2):=fun V hv=>(by have hw:Below w2 w2 V:=HW.o.drew.trans (hv.mono HW.o.size);exact⟨(H12.o.keep (hw.block _ H12.o.lt)).cell 0,(H22.o.keep (hw.block _ H22.o.lt)).cell 0,(H22.o.keep (hw.block _ H22.o.lt)).cell 1,HZ.o V ((sD _ wr).drew.trans hv)⟩);go_upto_region 6 with fail;go_region_held3 (fun w'=>w'.cell? ⟨B,0,none⟩=some (.slice A nK c)∧w'.cell? ⟨B+1,0,none⟩=some (.int .i64 o1)∧w'.cell? ⟨B+1,1,none⟩=some (.int .i64 o2)∧w'.cell? ⟨bs,os+i*2,none⟩=some (.int .i64 y1)∧w'.cell? ⟨bs,os+i*2+1,none⟩=some (.int .i64 y2)) (first|exact⟨j0,q0,q1,z1,z2⟩|exact KS _ (by assumption)) (first|(go_at_call 15;refine C2.mono ?_;rintro e w4 ⟨v4,n4,rfl,ho4,-,hb4⟩));clear j0 q0 q1 z1 z2 KS;obtain⟨A4,c4,rfl,-,-,-⟩:=aA.of_own ho4;have hb5:Below wr wr w4:=(sD _ wr).drew.trans hb4;have HO4:=Hi (aO HO.o hb5);have HW4:Hid (Below w2 w2 w4):=HW.o.trans (hb5.mono HW.o.size);have z1:w4.cell? ⟨bs,os+i*2,none⟩=some (.int .i64 y1):=(HZ.o w4 hb5).1;have z2:w4.cell? ⟨bs,os+i*2+1,none⟩=some (.int .i64 y2):=(HZ.o w4 hb5).2;clear C2 ho4 hb4 hb5 HO HW HZ;by_cases hp:0<ml;(·rw[tC hp]at HTK;have hfl:=HFL.o;obtain⟨nF,hnF⟩:=QX F.length;have HNF:=Hi hnF;rw[hnF]at HO4 hfl;clear hnF;go_wp2_with (at_builtin;refine bK 28 24 (.agg #[.int .i64 0,.int .i64 0]) 2 16 underlying28 kH rfl QZ rfl (.tmp 32) (.tmp 37) rfl (w2.heap.size) (_) (nF) (aF F) rfl (HO4.o.alloc _) (w4.heap.size) 1 ([y1,y2]) rfl ?c1 ?c2 ?c3 ?c4 ?c5 ?c6 ?_);(try case c1=>rfl);(try case c2=>intro j u hj;exact eX _ _ _ hj);(try case c3=>exact aX [(y1,y2)]);(try case c4=>omega);(try case c5=>omega);(try case c6=>first|(have:=HW4.o.size;simp;omega)|(simp;done));intro v7 w7 ho7 hg7 _;have HW7:Hid (Below w2 w2 w7):=(HW4.o.alloc HW4.o.size _).grown hg7 (by have:=HW4.o.size;simp;omega) (fun g hg=>(aC HO4.o hg).1);have HO7:Hid (w7.ownsRow w2 24 2 v7 ((S.take (i+1)).filter (fF K (o1,o2))).length (aF ((S.take (i+1)).filter (fF K (o1,o2))))):=(by show World.ownsRow _ _ _ _ _ _ _;rw[HTK.o,sF,HNF.o,bA];exact ho7);clear ho7 hg7 z1 z2 HO4 HW4;go_wp2_with fail;go_roundw;(case rel=>exact⟨i+1,v7,rfl,by go_num,by have:=HLT.o;omega,HO7,HW7⟩);(case measure=>have:=HLT.o;simp[intOf];omega));(·rw[sT hp,uD]at HTK;have HO7:Hid (w4.ownsRow w2 24 2 v6 ((S.take (i+1)).filter (fF K (o1,o2))).length (aF ((S.take (i+1)).filter (fF K (o1,o2))))):=(by show World.ownsRow _ _ _ _ _ _ _;rw[HTK.o];exact HO4.o);clear z1 z2 HO4;go_wp2_with fail;go_roundw;(case rel=>exact⟨i+1,v6,rfl,by go_num,by have:=HLT.o;omega,HO7,HW4⟩);(case measure=>have:=HLT.o;simp[intOf];omega)));(·have HF:Hid ((S.take i).filter (fF K (o1,o2))=eE K (o1,o2) N):=(by show _=_;rw[sS (by rw[HM.o];omega),HS.o]);rw[HF.o]at HO;have HO9:=Hi (bO HO.o (base':=B) fun k hk=>tD HBL2.o (aC HO.o hk).1);have HW9:Hid (Below B w wr):=HB2.o.trans (HW.o.mono HBL2.o);clear HO HW;go_wp2_with fail;go_ret;exact⟨v6,rfl,by rw[HBB.o];exact HO9.o,by rw[HBB.o];exact HW9.o⟩))
section
open Go.RowKit
theorem atJ_perm{K K':List OpI}(h:Rows1 K)(h':Rows1 K')(hn:(K.map Prod.snd).Nodup)(hn':(K'.map Prod.snd).Nodup)(hp:(K.map bI).Perm (K'.map bI))(w:Wh):atJ K w=atJ K' w:=by rw[atJ_is h,atJ_is h'];have h1:=fallV_is (pP hn w);have h2:=fallV_is (pP hn' w);exact fall_pairs (h1.1.trans ((atV_same hp w).trans h2.1.symm)) h1.2 h2.2
theorem liveE_perm{K K':List OpI}(h:Rows1 K)(h':Rows1 K')(hn:(K.map Prod.snd).Nodup)(hn':(K'.map Prod.snd).Nodup)(hp:(K.map bI).Perm (K'.map bI))(obj:Rf):fF K obj=fF K' obj:=by funext n;unfold fF;rw[atJ_perm h h' hn hn' hp]
theorem seenP_perm{K K':List OpI}{N:Int}(hK:KTree K N)(hK':KTree K' N)(h:Rows1 K)(h':Rows1 K')(hp:(K.map bI).Perm (K'.map bI))(obj:Rf):eE K obj N=eE K' obj N:=by unfold eE;rw[subE_perm hK hK' hp,liveE_perm h h' hK.nd hK'.nd hp]
end
theorem fst_one{α β:Type}: ∀ {L:List (α×β)},(L.map Prod.fst).Nodup→∀ {x y:α×β},x∈L→y∈L→x.1=y.1→x=y
 | [],_,x,y,hx,_,_=>by cases hx
 |z::L,hn,x,y,hx,hy,hxy=>by
  rw[tB,uB]at hn;rcases sR.1 hx with rfl|hx2
  ·rcases sR.1 hy with rfl|hy2
   ·rfl
   ·exact(hn.1 (hxy▸uG (f:=Prod.fst) hy2)).elim
  ·rcases sR.1 hy with rfl|hy2
   ·exact(hn.1 (hxy▸uG (f:=Prod.fst) hx2)).elim
   ·exact fst_one hn.2 hx2 hy2 hxy
theorem getPl_at{S:StV}(hn:(S.map Prod.fst).Nodup){p:Wh}{E:List (Rf×VD)}(hm:(p,E)∈S):eS S p=E:=by unfold eS;(cases hf:S.find? (fun e=>decide (e.1=p)) with|none=>exact absurd (vI.1 hf _ hm) QM|some x =>have h1:=uQ hf;have h2:x.1=p:=(by simpa using wE hf);exact congrArg Prod.snd (fst_one hn h1 hm h2))
theorem getPl_no{S:StV}{p:Wh}(hm:∀e∈S,e.1≠p):eS S p=[]:=by unfold eS;rw[vI.2 fun e he=>by simpa using hm e he]
section
variable{K:List OpI}{N:Int}{B g kb vb cb lb:Nat}{V:cS}{C:dB}{w:World}
theorem SMem.place(h:SMem B w g kb vb cb lb K V C)(hR:Rows1 K){p:Wh}(h1:bZ p.1)(h2:bZ p.2.2)(h3:p.2.1.size≤maxLen): ∃mb:Option Nat,MapO w 24 mb ((atV K p).map kvd)∧(∀b,mb=some b→b<w.heap.size)∧∀U:World,U.heap[vb]?=w.heap[vb]?→(Instr.lookup 96 (.map (some vb)) (whV p) false).run prog U=.ok (.map mb) U:=by have hat:eS (kG K) p=atV K p:=(by unfold kG;rw[getPl_new];exact qJ hR p);by_cases hm:∃x∈V,x.1=p;(·obtain⟨⟨p',b,E⟩,hx,rfl⟩:=hm;have hE:atV K p'=E:=(by rw[←hat,←h.isV];refine getPl_at ?_ (sJ.2 ⟨_,hx,rfl⟩);rw[vG];exact h.sg.places);rw[hE];have he:=h.each _ hx;exact⟨some b,he,(fun b' e=>by cases e;exact aH.lt he),fun U hU=>aH.hit (aH.keep h.vals hU) cE underlying96 (fX U) (sJ.2 ⟨_,hx,rfl⟩) false⟩);(·obtain⟨kl,hkl⟩:=jX h1 h2 h3;have hE:atV K p=[]:=(by rw[←hat,←h.isV];refine getPl_no fun e he hp=>?_;obtain⟨y,hy,rfl⟩:=sJ.1 he;exact hm ⟨y,hy,hp⟩);rw[hE];refine⟨none,rfl,(fun b e=>by cases e),fun U hU=>aH.miss (aH.keep h.vals hU) cE underlying96 (fX U) hkl (fun q hq e=>?_) false⟩;obtain⟨y,hy,rfl⟩:=sJ.1 hq;exact hm ⟨y,hy,rF e⟩)
theorem atJ_atV(hR:Rows1 K)(p:Wh)(hn:(K.map Prod.snd).Nodup){l:List (Rf×VD)}(hp:l.Perm (atV K p))(hd:DescW (l.map Prod.fst)):l=atJ K p:=by have h1:=fallV_is (pP hn p);rw[atJ_is hR];refine fall_pairs (hp.trans h1.1.symm) (desc_fall hd ?_) h1.2;exact((hp.map Prod.fst).nodup_iff).2 (pP hn p)
theorem pD(hR:Rows1 K)(p:Wh)(hn:(K.map Prod.snd).Nodup):(atJ K p).length=(atV K p).length:=by rw[atJ_is hR];exact(fallV_is (pP hn p)).1.length_eq
theorem stAtK_any(hm:SMem B w g kb vb cb lb K V C)(hR:Rows1 K)(hn:(K.map Prod.snd).Nodup)(p:Wh)(h1:bZ p.1)(h2:bZ p.2.2)(h3:p.2.1.size≤maxLen)(hl:K.length≤100000): Calls prog 66 #[.pointer (some ⟨g,0,none⟩),whV p] w fun e w'=>PlR p (atJ K p) w.heap.size e w'∧Below w w w':=by obtain⟨mb,hmo,-,hlk⟩:=hm.place hR h1 h2 h3;refine(stAt_any p.1.1 p.1.2 p.2.1 p.2.2.1 p.2.2.2 (atV K p) mb g vb _ _ _ w hm.blk (fun U hU _=>hlk U hU) (aH.lt hm.vals) hmo (pP hn p) (by have:=atV_len K p;omega)).mono ?_;rintro e w' ⟨l,hp,hd,hpl,hb⟩;rw[←atJ_atV hR p hn hp hd];exact⟨hpl,hb⟩
end
theorem build_wh2(a b c d:Int)(w:World):(Instr.build 126 #[(0,.agg #[a,b]),(2,.agg #[c,d])]).run prog w=.ok (.agg #[a,b,.string ⟨#[]⟩,c,d]) w:=by kernel_rfl
theorem stElem_any{K:List OpI}{B g kb vb cb lb:Nat}{V:cS}{C:dB}(w:World)(hm:SMem B w g kb vb cb lb K V C)(hR:Rows1 K)(hn:(K.map Prod.snd).Nodup)(o1 o2 n1 n2:Int)(h1:bZ (o1,o2))(h2:bZ (n1,n2))(hl:K.length≤100000): Calls prog 42 #[.pointer (some ⟨g,0,none⟩),.agg #[o1,o2],.agg #[n1,n2]] w fun e w'=>PlR ((o1,o2),⟨#[]⟩,(n1,n2)) (atJ K ((o1,o2),⟨#[]⟩,(n1,n2))) w.heap.size e w'∧Below w w w':=by have hb1:Below w w (w.alloc (.cells #[o1,o2] 24)):=(sD _ w).alloc (sE _) _;have hb2:Below w w ((w.alloc (.cells #[o1,o2] 24)).alloc (.cells #[n1,n2] 24)):=hb1.alloc hb1.size _;have hb3:Below w w (((w.alloc (.cells #[o1,o2] 24)).alloc (.cells #[n1,n2] 24)).alloc (.cells #[.int .i64 0,.int .i64 0,.string ⟨#[]⟩,.int .i64 0,.int .i64 0,.slice none 0 0,.slice none 0 0] 73)):=hb2.alloc hb2.size _;have h1':=Blk.new w 24 #[o1,o2];have h2':=Blk.new (w.alloc (.cells #[o1,o2] 24)) 24 #[n1,n2];have h3':=Blk.new ((w.alloc (.cells #[o1,o2] 24)).alloc (.cells #[n1,n2] 24)) 73 #[.int .i64 0,.int .i64 0,.string ⟨#[]⟩,.int .i64 0,.int .i64 0,.slice none 0 0,.slice none 0 0];have HO:=Hi ((h1'.alloc (.cells #[n1,n2] 24)).alloc (.cells #[.int .i64 0,.int .i64 0,.string ⟨#[]⟩,.int .i64 0,.int .i64 0,.slice none 0 0,.slice none 0 0] 73));have HN:=Hi (h2'.alloc (.cells #[.int .i64 0,.int .i64 0,.string ⟨#[]⟩,.int .i64 0,.int .i64 0,.slice none 0 0,.slice none 0 0] 73));have HP:=Hi h3';have HB:=Hi hb3;rw[sW]at HN;rw[sW,sW]at HP;have C1:=stAtK_any (hm.below hb3) hR hn ((o1,o2),⟨#[]⟩,(n1,n2)) h1 h2 (vU _) hl;obtain⟨l,hle⟩:=QX (atJ K ((o1,o2),⟨#[]⟩,(n1,n2)));rw[hle]at C1 ⊢;simp only[whV]at C1;have hbp:=fun w=>build_wh2 o1 o2 n1 n2 w;clear hm hR hn hb1 hb2 hb3 h1' h2' h3' h1 h2 hle;go_enter func42,ntmps42;go_upto_region 1 with fail;generalize ((w.alloc (.cells #[o1,o2] 24)).alloc (.cells #[n1,n2] 24)).alloc (.cells #[.int .i64 0,.int .i64 0,.string ⟨#[]⟩,.int .i64 0,.int .i64 0,.slice none 0 0,.slice none 0 0] 73)=w0 at HO HN HP HB C1 ⊢;obtain⟨q,hq⟩:=QX (w.heap.size+1+1);have HQ:=Hi hq;have HQB:Hid (w.heap.size<q):=(by show _<_;omega);rw[hq]at HP ⊢;clear hq;have HBS:=Hi HB.o.size;obtain⟨q0,q1⟩:=ce2 HO.o;obtain⟨n0,n1'⟩:=ce2 HN.o;go_wp2_with fail;go_at_call 66;refine C1.mono ?_;rintro e w1 ⟨⟨A,cA,I,cI,rfl,hra,hri⟩,hb⟩;have HP1:=QY HP hb;have HB1:Hid (Below w w w1):=HB.o.trans (hb.mono HBS.o);have HLT:=Hi HP.o.lt;have HRA:=Hi hra;have HRI:=Hi hri;clear hb hra hri C1 q0 q1 n0 n1' HO HN HP HB hbp;have r0:=cZ HP1.o 0 rfl;have f0:=HP1.o.frozen 0;have r1:=cZ HP1.o 1 rfl;have f1:=HP1.o.frozen 1;have r2:=cZ HP1.o 2 rfl;have f2:=HP1.o.frozen 2;have r3:=cZ HP1.o 3 rfl;have f3:=HP1.o.frozen 3;have r4:=cZ HP1.o 4 rfl;have f4:=HP1.o.frozen 4;have r5:=cZ HP1.o 5 rfl;have f5:=HP1.o.frozen 5;have r6:=cZ HP1.o 6 rfl;have f6:=HP1.o.frozen 6;go_wp2_with fail;have hch:Chg (fun k=>k=q) _ _:=((((((((Chg.refl w1).put1 0 (.int .i64 o1)).put1 1 (.int .i64 o2)).put1 2 (.string ⟨#[]⟩)).put1 3 (.int .i64 n1)).put1 4 (.int .i64 n2)).put1 5 (.slice A l.length cA)).put1 6 (.slice I l.length cI));have hbl:=(((((((HP1.o.set_ 0 (.int .i64 o1)).set_ 1 (.int .i64 o2)).set_ 2 (.string ⟨#[]⟩)).set_ 3 (.int .i64 n1)).set_ 4 (.int .i64 n2)).set_ 5 (.slice A l.length cA)).set_ 6 (.slice I l.length cI));refine bodyPost_ret (eZ (p:=6) QQ _ _ q 73 #[o1,o2,.string ⟨#[]⟩,n1,n2,.slice A l.length cA,.slice I l.length cI] _ rfl hbl underlying73 rfl QQ) rfl ?_;exact⟨⟨A,cA,I,cI,rfl,(HRA.o.keep (hch.keeps fun k hk=>⟨hk.2,by have:=HLT.o;omega⟩)).more fun k hk=>⟨tD HBS.o hk.1,sH hk.2 hch.size⟩, (HRI.o.keep (hch.keeps fun k hk=>⟨hk.2,by have:=HLT.o;omega⟩)).more fun k hk=>⟨tD HBS.o hk.1,sH hk.2 hch.size⟩⟩,HB1.o.trans (hch.below HB1.o.size fun k hk=>by have:=HQB.o;omega)⟩
theorem MapO.len{w:World}{k e t:TypeId}{mb:Option Nat}{l:List (Value×Value)}(h:MapO w k mb l)(ht:prog.underlying t=some (.map k e))(ty:TypeId):(Builtin.len_ #[t] ty #[.map mb]).run prog w=.ok (.int .i64 l.length) w:=by (cases mb with|some b=>exact aH.len h ht ty|none =>obtain rfl:l=[]:=h;exact Maps.len_nil ht ty)
theorem deleteFI0_any(A:Option Addr)(c:Nat)(gf:Nat)(lb:Array Value)(w:World)(eg:∀args w,(callFunc gf args).run prog w=.ok (.enter gf args) w): Calls prog 64 #[.slice A 0 c,.func (.func gf) #[] lb] w fun e w'=>e=.returned (.slice A 0 c)∧Below w w w':=by have C1:=indexFI_any [] A c w ⟨rfl,fun h=>absurd h QM⟩ QM gf lb (fun _=>false) eg (fun W r hr hb=>by cases hr);rw[show nZ (fun _=>false) ([]:List Rf)=-1 from rfl,show([]:List Rf).length=0 from rfl]at C1;go_enter func64,ntmps64;go_wp2_with fail;go_at_call 98;refine C1.mono ?_;rintro e w1 ⟨rfl,hb⟩;go_wp2_with fail;go_ret;exact⟨rfl,hb⟩
theorem deleteOwnI{v:Value}{l:List Rf}{base:Nat}{w:World}(ho:w.ownsRow base 24 2 v l.length (aF l))(hB:base≤w.heap.size)(hl:l.length≤1000000)(gf:Nat)(lb:Array Value)(p:Rf→Bool) (eg:∀args w,(callFunc gf args).run prog w=.ok (.enter gf args) w) (hp:∀(W:World) (r:Rf),r∈l→Below base w W→Calls prog gf (#[.agg #[r.1,r.2]]++lb) W fun e w'=>e=.returned (.bool (p r))∧Below W W w') : Calls prog 64 #[v,.func (.func gf) #[] lb] w fun e w' => ∃A c,e=.returned (.slice A (l.filter fun r=>!p r).length c)∧c≤maxLen∧(l.filter fun r=>!p r).length≤c∧aA (fun k=>base≤k∧k<w'.heap.size) w' 2 A (l.filter fun r=>!p r).length (aF (l.filter fun r=>!p r))∧Below base w w':=by obtain⟨A,cap,rfl,h1,h2,-⟩:=aA.of_own ho;rcases vH l.length with h0|h0;(·obtain rfl:=uO.1 h0;refine(deleteFI0_any A cap gf lb w eg).mono ?_;rintro e w' ⟨rfl,hb⟩;exact⟨A,cap,rfl,h2,vU _,⟨rfl,fun h=>by cases h⟩,hb.mono hB⟩);(·obtain⟨g,cap',hA,hg1,hg2⟩:=ho.form h0;simp only[uW,true_and]at hA;obtain⟨rfl,rfl⟩:=hA;have hrow:bG w g l:=fun j u hu=>(by have hj:j<l.length*2:=(by rcases vM j (l.length*2) with h|h;(·exact h);(·rw[tW (by rw[bC];exact h)]at hu;cases hu));exact⟨(wS ho j hj).trans hu,xP ho j⟩);refine(deleteFI_any g cap l.length l w hrow hg2 rfl hl h1 (by simp only[maxLen]at h2;omega) gf lb p eg (fun W r hr hc=>hp W r hr (hc.below hB fun k hk=>by rw[hk];exact hg1))).mono ?_;rintro e w' ⟨rfl,hr,hc⟩;exact⟨_,_,rfl,h2,tD (vE _ _) h1,hr.reads.more fun k hk=>by rw[hk];exact⟨hg1,sH hg2 hc.size⟩,hc.below hB fun k hk=>by rw[hk];exact hg1⟩)
section
variable{K:List OpI}{N:Int}{B g kb vb cb lb:Nat}{V:cS}{C:dB}
theorem seen1_any(w:World)(hm:SMem B w g kb vb cb lb K V C)(hR:Rows1 K)(hn:(K.map Prod.snd).Nodup)(o1 o2 n1 n2:Int)(h1:bZ (o1,o2))(h2:bZ (n1,n2))(hl:K.length≤100000)(q q2:Nat) (hq:w.cell? ⟨q,0,none⟩=some (.pointer (some ⟨g,0,none⟩))) (hql:q<w.heap.size) (hq2:Blk w q2 24 #[o1,o2]) : Calls prog 65 (#[.agg #[n1,n2]]++#[.pointer (some ⟨q,0,none⟩),.pointer (some ⟨q2,0,none⟩)]) w fun e w'=>e=.returned (.bool (!fF K (o1,o2) (n1,n2)))∧Below w w w':=by have hW:Below w w (w.alloc (.cells #[n1,n2] 24)):=(sD _ w).alloc (sE _) _;have HQ:=Hi (Blk.new w 24 #[n1,n2]);have HW:=Hi hW;have HQ2:=Hi (hq2.keep (hW.block _ hq2.lt));have HS:=Hi (hm.below hW);have HQ1:Hid ((w.alloc (.cells #[n1,n2] 24)).cell? ⟨q,0,none⟩=some (.pointer (some ⟨g,0,none⟩))):=(sU (hW.block _ hql)).trans hq;obtain⟨mb,hmo,hlt,hlk⟩:=HS.o.place hR (p:=((o1,o2),⟨#[]⟩,(n1,n2))) h1 h2 (vU _);have HLV:Hid (fF K (o1,o2) (n1,n2)=decide (0<(atV K ((o1,o2),⟨#[]⟩,(n1,n2))).length)):=(by show _=_;unfold fF;rw[pD hR _ hn]);have hlen:=fun ty=>(hmo.keep (w':=(w.alloc (.cells #[n1,n2] 24)).drew) fun _ _=>rfl).len (t:=132) underlying132 ty;rw[sP]at hlen;obtain⟨ne,hne⟩:=QX ((atV K ((o1,o2),⟨#[]⟩,(n1,n2))).length);rw[hne]at hlen HLV;have HNE:Hid (ne≤100000):=(by show _≤_;rw[←hne];exact tD (atV_len _ _) hl);obtain⟨ok,hok⟩:=QX (((ne:Int) == 0));have HOK:=Hi hok;have hbp:=fun w=>build_wh2 o1 o2 n1 n2 w;simp only[whV]at hlk;have hlk:=hlk (w.alloc (.cells #[n1,n2] 24)).drew rfl;clear hm hR hn hq hql hq2 hW hmo hlt hne h1 h2 hl;show Calls _ _ #[.agg #[n1,n2],.pointer (some ⟨q,0,none⟩),.pointer (some ⟨q2,0,none⟩)] _ _;go_enter func65,ntmps65;go_upto_region 1 with fail;generalize w.alloc (.cells #[n1,n2] 24)=w0 at HQ HW HQ2 HS HQ1 hlk hlen ⊢;generalize w.heap.size=qn at HQ ⊢;have g0:w0.cell? ⟨q,0,none⟩=some (.pointer (some ⟨g,0,none⟩)):=HQ1.o;have g1:=cZ HS.o.blk 1 rfl;obtain⟨q0,q1⟩:=ce2 HQ2.o;obtain⟨n0,n1'⟩:=ce2 HQ.o;refine wp_region_still_lit QQ QQ ?_;(repeat (refine aK rfl (fun K hK=>?_);go_simp;refine hK _ ?_;clear hK K));refine wpStill_nil ?_;change Exit.then _ _ _ _ w0.drew;have HW:Hid (Below w w w0.drew):=HW.o.drew;go_wp2_with fail;go_ret;exact⟨by rw[HLV.o,←HOK.o];cases ne<;>rfl,HW.o⟩
theorem stSeen_any(w:World)(hm:SMem B w g kb vb cb lb K V C)(hK:KTree K N)(hR:Rows1 K)(hids:∀x∈K,bZ x.2)(o1 o2:Int)(ho:bZ (o1,o2))(hl:K.length≤100000)(hk:∀x∈K,dD x=(o1,o2)→x.1.key=⟨#[]⟩): Calls prog 41 #[.pointer (some ⟨g,0,none⟩),.agg #[o1,o2]] w fun e w'=>∃A c,e=.returned (.slice A (eE K (o1,o2) N).length c)∧c≤maxLen∧(eE K (o1,o2) N).length≤c ∧ aA (fun k=>w.heap.size≤k∧k<w'.heap.size) w' 2 A (eE K (o1,o2) N).length (aF (eE K (o1,o2) N))∧Below w w w':=by have hb1:Below w w (w.alloc (.cells #[.pointer (some ⟨g,0,none⟩)] 92)):=(sD _ w).alloc (sE _) _;have hb2:Below w w ((w.alloc (.cells #[.pointer (some ⟨g,0,none⟩)] 92)).alloc (.cells #[o1,o2] 24)):=hb1.alloc hb1.size _;have HP:=Hi ((Blk.new w 92 #[.pointer (some ⟨g,0,none⟩)]).alloc (.cells #[o1,o2] 24));have HQ:=Hi (Blk.new (w.alloc (.cells #[.pointer (some ⟨g,0,none⟩)] 92)) 24 #[o1,o2]);rw[sW]at HQ;have HB:=Hi hb2;have HS:=Hi (hm.below hb2);have HLT:Hid (w.heap.size+1+1≤((w.alloc (.cells #[.pointer (some ⟨g,0,none⟩)] 92)).alloc (.cells #[o1,o2] 24)).heap.size):=(by show _≤_;simp);have C1:=stElems_any N o1 o2 _ HS.o hK hids ho hl hk;have HR:=Hi hR;have HK:=Hi hK;have HI:=Hi hids;have HO:=Hi ho;have HL:=Hi hl;clear hb1 hb2 hm hK hR hids ho hl hk;go_enter func41,ntmps41;go_upto_region 1 with fail;generalize (w.alloc (.cells #[.pointer (some ⟨g,0,none⟩)] 92)).alloc (.cells #[o1,o2] 24)=w0 at HP HQ HB HS HLT C1 ⊢;obtain⟨q,hq⟩:=QX w.heap.size;have HQQ:=Hi hq;rw[hq]at HP HQ HB HLT ⊢;clear hq;have p0:=cZ HP.o 0 rfl;obtain⟨q0,q1⟩:=ce2 HQ.o;go_wp2_with fail;go_at_call 34;refine C1.mono ?_;rintro e w1 ⟨v,rfl,ho1,hb⟩;have HB1:Hid (Below q w w1):=HB.o.trans (hb.mono (by have:=HLT.o;omega));have HP1:=QY HP hb;have HQ1:=QY HQ hb;have HS1:=Hi (HS.o.below hb);have HSZ:=Hi hb.size;have hall:=HK.o.all (obj:=(o1,o2));have EG:∀args w,(callFunc 65 args).run prog w=.ok (.enter 65 args) w:=enters_of func65 QQ (xO (show Tryz.f65.body.isSome=true by kernel_rfl)).symm;have C2:=deleteOwnI ho1 hb.size (by have:=hall.2.1;have:=HL.o;omega) 65 #[.pointer (some ⟨q,0,none⟩),.pointer (some ⟨q+1,0,none⟩)] (fun r=>!fF K (o1,o2) r) EG (fun W r hr hbW=>by obtain⟨x,hx,rfl,-,-⟩:=hall.2.2 r hr;have hW:=hb.trans hbW;exact seen1_any W (HS.o.below hW) HR.o HK.o.nd o1 o2 x.2.1 x.2.2 HO.o (HI.o x hx) HL.o q (q+1) ((hW.cell (by have:=HLT.o;show q<_;omega)).trans (HP.o.cell 0)) (by have:=HLT.o;have:=hW.size;omega) (HQ.o.keep (hW.block _ HQ.o.lt)));rw[show(gQ K (o1,o2) N (0,0)).filter (fun r=>!!fF K (o1,o2) r)=eE K (o1,o2) N by unfold eE;simp only[Bool.not_not]]at C2;have HLT2:Hid (q≤w0.heap.size):=(by have:=HLT.o;show _≤_;omega);clear C1 p0 q0 q1 hall ho1 hb EG HS1 HQ1 HP1 HS HQ HP HLT;go_wp2_with fail;go_at_call 64;refine C2.mono ?_;rintro e w2 ⟨A,c,rfl,hc1,hc2,hr,hb2⟩;have HCC:=Hi (And.intro hc1 hc2);have HR2:=Hi hr;have HB2:Hid (Below q w w2):=HB1.o.trans (hb2.mono HLT2.o);clear C2 hr hb2 hc1 hc2;go_wp2_with fail;go_ret;exact⟨A,c,rfl,HCC.o.1,HCC.o.2,HR2.o.more fun k hk=>⟨by have h:=HLT2.o;rw[←HQQ.o]at h;exact tD h hk.1,hk.2⟩,by rw[HQQ.o];exact HB2.o⟩
end
section
variable{K:List OpI}{N:Int}{B g kb vb cb lb:Nat}{V:cS}{C:dB}
end
section
variable{L:List ChD}{o:Rf}{g:Nat}{w w':World}
theorem Bk.ids64{L:List ChD}(h:Bk L):∀x∈aJ L,bZ x.2:=fun x hx=>by
 have:=h.num x hx
 exact⟨by omega,by omega⟩
end
def fD(K:List OpI)(o n:Rf):VD:=match atJ K (o,⟨#[]⟩,n) with|e::_=>e.2 | []=>⟨0,0,⟨#[]⟩,0,0⟩
theorem field_all(a b:Int)(k:ByteArray)(c d:Int)(A:Option Addr)(n m:Nat)(A':Option Addr)(n' m':Nat)(w:World):
 (Instr.field 73 (.agg #[a,b,k,c,d,.slice A n m,.slice A' n' m']) 3).run prog w=.ok (.slice A n m) w:=by kernel_rfl
theorem seen_live{K:List OpI}{o n:Rf}(h:n∈eE K o 1000100):∃e l,atJ K (o,⟨#[]⟩,n)=e::l∧fD K o n=e.2:=by have h1:=(tV.1 h).2;unfold fF at h1;unfold fD;(cases hl:atJ K (o,⟨#[]⟩,n) with|nil=>rw[hl]at h1;simp at h1|cons e l=>exact⟨e,l,rfl,rfl⟩)
section
open Go.RowKit
def eU(K:List OpI)(o:Rf)(k:ByteArray):VD:=match atJ K (o,k,(0,0)) with|e::_=>e.2 | []=>⟨0,0,⟨#[]⟩,0,0⟩
def bV:List (List UInt8)→List UInt8
 | []=>[]
 | [x]=>x
 |x::y::l=>x++44::bV (y::l)
def cH(K:List OpI):Nat→VD→List UInt8
 |0,_=>[]
 |n+1,v =>
  if v.k=5 then 123::(bV ((dM K (v.a,v.b)).map fun k=>dH k.data.toList++58::cH K n (eU K (v.a,v.b) k))++[125])
  else if v.k=6 then 91::(bV ((eE K (v.a,v.b) 1000100).map fun e=>cH K n (fD K (v.a,v.b) e))++[93])
  else (bJ v.k v.n v.t v.a v.b).data.toList
theorem joinL_len:∀ls:List (List UInt8),(bV ls).length≤(ls.map fun x=>x.length+1).sum
 | []=>by simp[bV]
 | [x]=>by simp[bV]
 |x::y::l=>by
  have h:=joinL_len (y::l);simp only[bV,sF,sN,tB,wJ]at h ⊢;omega
theorem sum_erase{g:Rf→Nat}: ∀ {m:List Rf} {r:Rf},r∈m→(m.map g).sum=g r+((m.erase r).map g).sum
 |x::m,r,h=>by
  by_cases e:x=r
  ·subst e;simp
  ·have hm:r∈m:=by
    rcases sR.1 h with h1|h1
    ·exact(e h1.symm).elim
    ·exact h1
   rw[List.erase_cons_tail (by simpa using e),tB,wJ,tB,wJ,sum_erase hm];omega
theorem sum_inj{α:Type}{f:α→Rf}{g:Rf→Nat}: ∀ {l:List α} {m:List Rf},(l.map f).Nodup→(∀a∈l,f a∈m)→(l.map fun a=>g (f a)).sum≤(m.map g).sum
 | [],m,_,_=>by simp
 |a::l,m,hn,hm=>by
  rw[tB,uB]at hn;have h1:=sum_inj (g:=g) (l:=l) (m:=m.erase (f a)) hn.2 fun b hb=>by
   refine(List.mem_erase_of_ne fun e=>hn.1 ?_).2 (hm b (tZ _ hb))
   rw[←e];exact uG hb
  rw[tB,wJ,sum_erase (g:=g) (hm a (tE ..))];omega
theorem sum_le{α:Type}{f g:α→Nat}: ∀ {l:List α},(∀a∈l,f a≤g a)→(l.map f).sum≤(l.map g).sum
 | [],_=>by simp
 |a::l,h=>by
  rw[tB,wJ,tB,wJ];have h1:=h a (tE ..);have h2:=sum_le (l:=l) fun b hb=>h b (tZ _ hb)
  omega
structure TxK(K:List OpI):Prop where
 nd:(K.map Prod.snd).Nodup
 up:∀x∈K,(dD x).1<x.2.1
 pos:∀x∈K,1≤x.2.1
 top:∀x∈K,x.2.1≤1000100
 key:∀x∈K,x.1.key.size≤20
 txt:∀x∈K,x.1.vk=3→x.1.vt.size≤60
 num:∀x∈K,IntKind.i64.wrap x.1.vn=x.1.vn
 made:∀x∈K,x.1.vk=5∨x.1.vk=6→x.1.k=2
 tree:KTree K 1000100
def nC(K:List OpI):List OpI:=K.map fun x=>({ x.1 with ins:=true,on:=0,oa:=0,en:=x.1.on,ea:=x.1.oa },x.2)
theorem TxK.objTree{K:List OpI}(h:TxK K):KTree (nC K) 1000100 where
 nd:=by unfold nC;rw[vG];exact h.nd
 up:=fun y hy _=>by
  obtain⟨x,hx,rfl⟩:=sJ.1 hy
  exact h.up x hx
 pos:=fun y hy=>by
  obtain⟨x,hx,rfl⟩:=sJ.1 hy
  exact h.pos x hx
 top:=fun y hy=>by
  obtain⟨x,hx,rfl⟩:=sJ.1 hy
  exact h.top x hx
theorem TxK.kid{K:List OpI}(h:TxK K)(hx:x∈K):x.2∈dN (nC K) (0,0) (dD x):=by refine((h.objTree.kids (obj:=(0,0)) (dD x)).2.1 _).2 (kidIds_mem.2 ⟨_,sJ.2 ⟨x,hx,rfl⟩,?_,rfl⟩);exact jH.2 ⟨rfl,rfl,rfl⟩
theorem first_of{K:List OpI}{w:Wh}{e:Rf×VD}{l:List (Rf×VD)}(h:atJ K w=e::l):∃x∈K,bT K w x=true∧e.1=x.2∧e.2=iL K x:=by have hp:=(fallV_go (((K.take K.length).filter (bT K w)).map fun x=>(x.2,iL K x)) []).1;have hm:e∈atJ K w:=(by rw[h];exact tE ..);have h1:=hp.mem_iff.1 hm;rw[wD,List.take_length]at h1;obtain⟨x,hx,rfl⟩:=sJ.1 h1;exact⟨x,(tV.1 hx).1,(tV.1 hx).2,rfl,rfl⟩
theorem lives_wh{K:List OpI}{w:Wh}(h:bT K w x=true):wh1 x=w:=by unfold bT at h;simp only[tL,tK]at h;exact h.1.1
theorem qK(K:List OpI)(x:OpI):(iL K x).k=x.1.vk∧(iL K x).t=x.1.vt∧(x.1.k=2→((iL K x).a,(iL K x).b)=x.2)∧(IntKind.i64.wrap x.1.vn=x.1.vn→IntKind.i64.wrap (iL K x).n=(iL K x).n):=by unfold iL gB;split;(·split;(·exact⟨rfl,rfl,fun _=>rfl,fun _=>VD.add_wf _ _⟩);(·rename_i h;exact⟨rfl,rfl,fun h2=>(h h2).elim,fun _=>VD.add_wf _ _⟩));(·split;(·exact⟨rfl,rfl,fun _=>rfl,fun h=>h⟩);(·rename_i h;exact⟨rfl,rfl,fun h2=>(h h2).elim,fun h=>h⟩))
theorem rE{n:Int}(h:IntKind.i64.wrap n=n):I64 n:=by rw[IntKind.wrap_i64]at h;exact⟨by omega,by omega⟩
theorem show_len{k n:Int}{t:ByteArray}{a b:Int}(hk:k≠5∧k≠6)(ht:k=3→t.size≤60)(hn:I64 n):(bJ k n t a b).data.toList.length≤200:=by have hlen:∀s:ByteArray,s.data.toList.length=s.size:=fun s=>uU;rw[hlen];unfold bJ;split;(·split<;>decide);(·split;(·have:=kZ hn;omega);(·split;(·rename_i h3;have h1:=ht h3;have h2:=jF t.data.toList;show(dH t.data.toList).toArray.size≤200;rw[yJ];unfold dH;rw[sN,sF,sN,tT];rw[hlen]at h2;omega);(·rw[sT hk.1,sT hk.2];decide)))
theorem part_len{K:List OpI}(h:TxK K){n:Nat}{o:Rf}(hx:∀x∈K,(cH K n (iL K x)).length≤200+500*(fO (nC K) (0,0) n x.2).length){α:Type}{l:List α}(hn:l.Nodup){p:α→Wh} (hp:∀a b,p a=p b→a=b) (ho:∀a,(p a).1=o) (hne:∀a∈l,atJ K (p a)≠[]) {T:α→List UInt8} (hT:∀a∈l,∀e r,atJ K (p a)=e::r→(T a).length≤64+(cH K n e.2).length) : ((l.map T).map fun x=>x.length+1).sum≤500*((dN (nC K) (0,0) o).map fun r=>1+(fO (nC K) (0,0) n r).length).sum:=by obtain⟨f,hf⟩:∃f:α→Rf,f=fun a=>match atJ K (p a) with|e::_=>e.1 | []=>(0,0):=⟨_,rfl⟩;have hfx:∀a∈l,∃x∈K,wh1 x=p a∧f a=x.2∧(T a).length≤64+(cH K n (iL K x)).length:=fun a ha=>(by (cases hat:atJ K (p a) with|nil=>exact(hne a ha hat).elim|cons e r =>obtain⟨x,hxK,hl,e1,e2⟩:=first_of hat;refine⟨x,hxK,lives_wh hl,?_,?_⟩;(·rw[hf];simp only[hat];exact e1);(·rw[←e2];exact hT a ha e r hat)));have hnd:(l.map f).Nodup:=(by rw[List.Nodup,vC];refine hn.imp_of_mem fun {a b} ha hb hab e=>hab (hp a b ?_);obtain⟨x,hxK,hw,hfa,-⟩:=hfx a ha;obtain⟨y,hyK,hw',hfb,-⟩:=hfx b hb;have:x=y:=qX h.nd hxK hyK (by rw[←hfa,←hfb,e]);rw[←hw,←hw',this]);have hmem:∀a∈l,f a∈dN (nC K) (0,0) o:=fun a ha=>(by obtain⟨x,hxK,hw,hfa,-⟩:=hfx a ha;rw[hfa];have h1:=h.kid hxK;have h2:dD x=o:=(by rw[←ho a,←hw];rfl);rwa [h2]at h1);have h1:=sum_inj (g:=fun r=>500*(1+(fO (nC K) (0,0) n r).length)) hnd hmem;have h2:((l.map T).map fun x=>x.length+1).sum≤(l.map fun a=>500*(1+(fO (nC K) (0,0) n (f a)).length)).sum:=(by rw[vG];refine sum_le fun a ha=>?_;obtain⟨x,hxK,-,hfa,hlen⟩:=hfx a ha;have h3:=hx x hxK;show(T a).length+1≤_;rw[hfa];omega);have hsum:∀m:List Rf,(m.map fun r=>500*(1+(fO (nC K) (0,0) n r).length)).sum=500*(m.map fun r=>1+(fO (nC K) (0,0) n r).length).sum:=fun m=>(by (induction m with|nil=>rfl|cons r l ih =>rw[tB,wJ,tB,wJ,ih];omega));rw[hsum]at h1;exact tD h2 h1
theorem text_len{K:List OpI}(h:TxK K):∀(n:Nat) (v:VD),(v.k=5∨v.k=6)→(cH K n v).length≤200+500*(fO (nC K) (0,0) n (v.a,v.b)).length
 |0,v,_=>by simp[cH]
 |n+1,v,hv=>by
  have hx:∀x∈K,(cH K n (iL K x)).length≤200+500*(fO (nC K) (0,0) n x.2).length:=fun x hx=>by
   obtain⟨e1,e2,e3,e4⟩:=qK K x
   by_cases hk:x.1.vk=5∨x.1.vk=6
   ·have h1:=text_len h n (iL K x) (by rw[e1];exact hk);rw[e3 (h.made x hx hk)]at h1;exact h1
   ·have hk2:(iL K x).k≠5∧(iL K x).k≠6:=by rw[e1];exact⟨fun e=>hk (.inl e),fun e=>hk (.inr e)⟩
    cases n with
    |zero=>simp[cH]
    |succ n =>
     unfold cH;rw[sT hk2.1,sT hk2.2];have:=show_len (k:=(iL K x).k) (n:=(iL K x).n) (t:=(iL K x).t) (a:=(iL K x).a) (b:=(iL K x).b) hk2 (by rw[e1,e2];exact h.txt x hx) (rE (e4 (h.num x hx)))
     omega
  have hbeh:(fO (nC K) (0,0) (n+1) (v.a,v.b)).length=((dN (nC K) (0,0) (v.a,v.b)).map fun r=>1+(fO (nC K) (0,0) n r).length).sum:=by
   rw[fO,List.length_flatMap];congr 1;exact uZ fun r _=>by rw[sN];omega
  rcases hv with h5|h6
  ·have hk:=gI K (v.a,v.b);have hpl:=part_len h (o:=(v.a,v.b)) hx (l:=dM K (v.a,v.b)) (hk.1.imp fun {a b} hab e=>by rw[e,qW]at hab;cases hab) (p:=fun k=>((v.a,v.b),k,(0,0))) (fun a b e=>congrArg (fun q:Wh=>q.2.1) e) (fun _=>rfl)
    (fun k hkm=>by obtain⟨x,-,-,-,-,h4⟩:=(hk.2 k).1 hkm;exact h4) (T:=fun k=>dH k.data.toList++58::cH K n (eU K (v.a,v.b) k)) (fun k hkm e r hat=>by
      have e1:eU K (v.a,v.b) k=e.2:=by unfold eU;rw[hat]
      obtain⟨x,hxK,-,hkey,-,-⟩:=(hk.2 k).1 hkm
      have h1:=h.key x hxK;rw[hkey]at h1;have h2:=jF k.data.toList;have h3:k.data.toList.length=k.size:=uU;rw[e1,sF,sN];unfold dH;rw[sN,sF,sN,tT];omega)
   have hj:=joinL_len ((dM K (v.a,v.b)).map fun k=>dH k.data.toList++58::cH K n (eU K (v.a,v.b) k));unfold cH;rw[tC h5,sN,sF,sN,tT,hbeh];omega
  ·have hpl:=part_len h (o:=(v.a,v.b)) hx (l:=eE K (v.a,v.b) 1000100) ((h.tree.all (obj:=(v.a,v.b))).1.sublist wW) (p:=fun e=>((v.a,v.b),⟨#[]⟩,e)) (fun a b e=>congrArg (fun q:Wh=>q.2.2) e) (fun _=>rfl)
    (fun e he=>by obtain⟨u,l,hat,-⟩:=seen_live he;rw[hat];simp) (T:=fun e=>cH K n (fD K (v.a,v.b) e)) (fun e he u r hat=>by
      have e1:fD K (v.a,v.b) e=u.2:=by unfold fD;rw[hat]
      rw[e1];omega)
   have hj:=joinL_len ((eE K (v.a,v.b) 1000100).map fun e=>cH K n (fD K (v.a,v.b) e));have h5:¬v.k=5:=by omega
   unfold cH;rw[sT h5,tC h6,sN,sF,sN,tT,hbeh];omega
theorem root_len{K:List OpI}(h:TxK K)(hl:K.length≤5000)(n:Nat)(hn:1000100<n):(cH K n ⟨5,0,⟨#[]⟩,0,0⟩).length≤3000000:=by have h1:=text_len h n ⟨5,0,⟨#[]⟩,0,0⟩ (.inl rfl);have h2:=h.objTree.sub_eq (obj:=(0,0)) (n:=n) (el:=(0,0)) (by show(1000100:Int)-0<n;omega);have h3:=(h.objTree.all (obj:=(0,0))).2.1;rw[←h2]at h3;have h4:(nC K).length=K.length:=sP ..;show _≤_;have h5:(fO (nC K) (0,0) n ((⟨5,0,⟨#[]⟩,0,0⟩:VD).a,(⟨5,0,⟨#[]⟩,0,0⟩:VD).b)).length≤5001:=(by show(fO (nC K) (0,0) n (0,0)).length≤5001;omega);omega
end
section
open Go.RowKit
theorem keysJ_perm{K K':List OpI}{N:Int}(hK:KTree K N)(hK':KTree K' N)(hR:Rows1 K)(hR':Rows1 K')(h:(K.map bI).Perm (K'.map bI))(o:Rf):dM K o=dM K' o:=by have key:∀ {A B:List OpI},(A.map bI).Perm (B.map bI)→(∀p,atJ A p=atJ B p)→∀k,k∈dM A o→k∈dM B o:=fun {A B} hp hat k hk=>(by obtain⟨x,hx,h1,h2,h3,h4⟩:=((gI A o).2 k).1 hk;obtain⟨y,hy,e⟩:=sJ.1 (hp.mem_iff.1 (uG hx));refine((gI B o).2 k).2 ⟨y,hy,?_,?_,h3,by rw[←hat];exact h4⟩;(·exact(show dD (bI y)=dD (bI x) by rw[e]).trans h1);(·exact(show(bI y).1.key=(bI x).1.key by rw[e]).trans h2));have hat:=atJ_perm hR hR' hK.nd hK'.nd h;exact riseS_eq (gI K o).1 (gI K' o).1 fun k=>⟨key h hat k,key h.symm (fun p=>(hat p).symm) k⟩
theorem textL_perm{K K':List OpI}(hK:KTree K 1000100)(hK':KTree K' 1000100)(hR:Rows1 K)(hR':Rows1 K')(h:(K.map bI).Perm (K'.map bI)):∀(n:Nat) (v:VD),cH K n v=cH K' n v
 |0,_=>rfl
 |n+1,v=>by
  have ih:=textL_perm hK hK' hR hR' h n;have hat:=atJ_perm hR hR' hK.nd hK'.nd h;have e1:∀o k,eU K o k=eU K' o k:=fun o k=>by unfold eU;rw[hat]
  have e2:∀o r,fD K o r=fD K' o r:=fun o r=>by unfold fD;rw[hat]
  unfold cH;rw[keysJ_perm hK hK' hR hR' h,seenP_perm hK hK' hR hR' h];simp only[ih,e1,e2]
end
section
open Go.RowKit
def cV(K:List OpI)(o:Rf):List Wh:=if dW K o=5 then (dM K o).map fun k=>(o,k,(0,0)) else (eE K o 1000100).map fun e=>(o,⟨#[]⟩,e)
def fI(K:List OpI):List Wh:=(dK K).flatMap (cV K)
section
variable{K K':List OpI}
theorem jV(h:KTree K 1000100)(o:Rf):(cV K o).length≤K.length+1:=by unfold cV;split;(·rw[sP];have:=kQ K o K.length;unfold dM;omega);(·rw[sP];have h1:=(h.all (obj:=o)).2.1;have h2:=vE (fF K o) (gQ K o 1000100 (0,0));unfold eE;omega)
theorem flatN_len{α β:Type}(f:α→List β)(n:Nat):∀l:List α,(∀x∈l,(f x).length≤n)→(l.flatMap f).length≤l.length*n
 | [],_=>by simp
 |x::l,h=>by
  have h1:=flatN_len f n l fun y hy=>h y (by simp[hy])
  have h2:=h x QM;rw[uA,sF,sN,Nat.add_mul];omega
theorem objsJ_len(K:List OpI):(dK K).length≤K.length+1:=objsG_len K K.length
theorem qT(h:KTree K 1000100)(i:Nat):(((dK K).take i).flatMap (cV K)).length≤(K.length+1)*(K.length+1):=by refine tD (flatN_len (cV K) (K.length+1) _ fun x _=>jV h x) (yK _ ?_);rw[tH];have:=objsJ_len K;omega
theorem KTree.no0(h:KTree K 1000100):∀x∈K,x.2≠(0,0):=fun x hx e=>by
 have:=h.pos x hx
 rw[e]at this;simp at this
theorem objs_sorted(h:KTree K 1000100){S:List Rf}(hp:S.Perm ((eI K).map Prod.fst))(ha:nQ S):S=dK K:=by obtain⟨h1,h2⟩:=rW h.nd h.no0;obtain⟨h3,h4⟩:=jO h1;have hm:∀r,r∈S↔r=(0,0)∨∃x∈K,x.1.k=2∧x.2=r:=fun r=>(by rw[hp.mem_iff];unfold eI;rw[tB,vG,sR];simp only[sJ,tV,Function.comp,tK,and_assoc]);have hn:S.Nodup:=(by rw[hp.nodup_iff];unfold eI;rw[tB,vG,uB];refine⟨fun hm=>?_,?_⟩;(·obtain⟨x,hx,e⟩:=sJ.1 hm;exact h.no0 x (tV.1 hx).1 e);(·exact h.nd.sublist (wW.map _)));exact asc_eq ha hn h3 h4 fun r=>(by rw[hm r,h2 r])
theorem objsJ_perm(h:KTree K 1000100)(h':KTree K' 1000100)(hp:(K.map bI).Perm (K'.map bI)):dK K=dK K':=by have key:∀ {A B:List OpI},(A.map bI).Perm (B.map bI)→∀r,(∃x∈A,x.1.k=2∧x.2=r)→∃x∈B,x.1.k=2∧x.2=r:=fun {A B} hq r ⟨x,hx,h1,h2⟩=>(by obtain⟨y,hy,e⟩:=sJ.1 (hq.mem_iff.1 (uG hx));exact⟨y,hy,(show(bI y).1.k=(bI x).1.k by rw[e]).trans h1,(show(bI y).2=(bI x).2 by rw[e]).trans h2⟩);obtain⟨h1,h2⟩:=rW h.nd h.no0;obtain⟨h3,h4⟩:=rW h'.nd h'.no0;obtain⟨a1,a2⟩:=jO h1;obtain⟨b1,b2⟩:=jO h3;exact asc_eq a1 a2 b1 b2 fun r=>(by rw[h2 r,h4 r];exact or_congr Iff.rfl ⟨key hp r,key hp.symm r⟩)
theorem places_perm(h:KTree K 1000100)(h':KTree K' 1000100)(hR:Rows1 K)(hR':Rows1 K')(hp:(K.map bI).Perm (K'.map bI)):fI K=fI K':=by unfold fI;rw[objsJ_perm h h' hp];refine cG fun o _=>?_;unfold cV;rw[kindJ_perm hp h.nd,keysJ_perm h h' hR hR' hp,seenP_perm h h' hR hR' hp]
end
end
def plC(p:Wh)(A:Option Addr)(n c:Nat)(I:Option Addr)(d:Nat):List Value:=[.int .i64 p.1.1,.int .i64 p.1.2,.string p.2.1,.int .i64 p.2.2.1,.int .i64 p.2.2.2,.slice A n c,.slice I n d]
def PlM(f:Wh→List (Rf×VD))(D:Nat→Prop)(w:World)(p:Wh)(cs:List Value):Prop :=
 ∃A c I d,cs=plC p A (f p).length c I d∧aA D w 5 A (f p).length (cB ((f p).map Prod.snd))∧aA D w 2 I (f p).length (aF ((f p).map Prod.fst))
def lI(f:Wh→List (Rf×VD))(D:Nat→Prop)(w:World)(ps:List Wh)(rows:List (List Value)):Prop :=
 rows.length=ps.length∧∀(i:Nat) (r:List Value) (p:Wh),rows[i]?=some r→ps[i]?=some p→PlM f D w p r
section
variable{f:Wh→List (Rf×VD)}{D D':Nat→Prop}{w w' w1 w2:World}{p:Wh}{ps:List Wh}{cs r:List Value}{rows:List (List Value)}
theorem PlM.to(hk:lE D w w')(hd:∀k,D k→D' k)(h:PlM f D w p cs):PlM f D' w' p cs:=by obtain⟨A,c,I,d,e,h1,h2⟩:=h;exact⟨A,c,I,d,e,(h1.keep hk).more hd,(h2.keep hk).more hd⟩
theorem PlM.one(h:PlM f D w p cs):cs.length=7∧∀u∈cs,u.oneCell'=true:=by obtain⟨A,c,I,d,rfl,-⟩:=h;refine⟨rfl,fun u hu=>?_⟩;simp only[plC,sR,uJ,or_false]at hu;rcases hu with rfl|rfl|rfl|rfl|rfl|rfl|rfl<;>rfl
theorem lI.to(hk:lE D w w')(hd:∀k,D k→D' k)(h:lI f D w ps rows):lI f D' w' ps rows:=⟨h.1,fun i r p hr hp=>(h.2 i r p hr hp).to hk hd⟩
theorem lI.nil:lI f D w [] []:=⟨rfl,fun i r p hr=>by simp at hr⟩
theorem lI.seven(h:lI f D w ps rows):∀r∈rows,r.length=7:=fun r hr=>by
 obtain⟨j,hj,e⟩:=wH hr
 have hj':rows[j]?=some r:=sI.2 ⟨hj,e⟩;exact(h.2 j r _ hj' (sG (by rw[←h.1];exact hj))).one.1
theorem lI.push{B:Nat}{v:Value}{o:Obj}(h:lI f (fun k=>B≤k∧k<w.heap.size∧v.ownBlock≠some k) w ps rows)(ho:∀k,v.ownBlock=some k→B≤k∧k<w.heap.size)(hB:B≤w.heap.size) (hb:Below w w w1) (hp:PlM f (fun k=>w.heap.size≤k∧k<w1.heap.size) w1 p r) (hg:(w1.alloc o).grownBy w2 v.ownBlock) (hat:v'.ownBlock=v.ownBlock∨v'.ownBlock=some (w1.heap.size+1)) : lI f (fun k=>B≤k∧k<w2.heap.size∧v'.ownBlock≠some k) w2 (ps++[p]) (rows++[r]):=by obtain⟨hs2,hk2⟩:=fP hg;have hs1:=hb.size;have hv':∀k,k<w1.heap.size→v.ownBlock≠some k→v'.ownBlock≠some k:=fun k hk hn e=>(by rcases hat with h|h;(·rw[h]at e;exact hn e);(·rw[h]at e;have e:=tJ e;omega));refine⟨by rw[sF,sF,h.1];rfl,fun i x q hx hq=>?_⟩;rcases vM i rows.length with hi|hi;(·rw[tR hi]at hx;rw[tR (by rw[←h.1];exact hi)]at hq;exact(h.2 i x q hx hq).to (fun k hk=>(hk2 k QZ hk.2.2).trans (hb.block k hk.2.1)) fun k hk=>⟨hk.1,by omega,hv' k QZ hk.2.2⟩);(·have hi':i=rows.length:=(by have:=(sI.1 hx).1;rw[sF]at this;simp only[sN,tT]at this;omega);subst hi';rw[tQ (sE _),Nat.sub_self]at hx;rw[h.1,tQ (sE _),Nat.sub_self]at hq;obtain rfl:=tJ hx;obtain rfl:=tJ hq;have hne:∀k,w.heap.size≤k→v.ownBlock≠some k:=fun k hk e=>(by have:=(ho k e).2;omega);exact hp.to (fun k hk=>hk2 k hk.2 (hne k hk.1)) fun k hk=>⟨by omega,by omega,hv' k hk.2 (hne k hk.1)⟩)
end
theorem infoPlace:(prog.info? 73).map (fun i=>(i.zero,i.size,i.bytes))=some (some (.agg #[.int .i64 0,.int .i64 0,.string ⟨#[]⟩,.int .i64 0,.int .i64 0,.slice none 0 0,.slice none 0 0]),7,96):=by kernel_rfl
theorem rR{P:Program}{fn:Func}{p u v:Tmp}{ty:TypeId}(h:fn.results=#[.cell p ty,.tmp u,.tmp v])(tmps:Array Value)(w:World)(g:Nat)(t:TypeId)(cs:Array Value)(d:TypeDesc) (hp:tmps.getD p undef=.pointer (some ⟨g,0,none⟩)) (hg:Blk w g t cs) (hu:P.underlying ty=some d) (hd:(match d with | .struct _ | .array _ _=>true|_=>false)=true) (hi:(P.info? ty).map (·.size)=some cs.size) : (results fn tmps).run P w=.ok (.tuple #[.agg cs,tmps.getD u undef,tmps.getD v undef]) w:=by have hp':tmps[p]?.getD undef=.pointer (some ⟨g,0,none⟩):=(by simpa using hp);simp[results,h,hp',asAddr,run_loadVar_row w g t ty cs (0,0) d hg hu hd hi]
theorem IsB.keepB{base:Nat}{v:Value}{l:List UInt8}{w w':World}(h:IsB base b v l w)(hb:Below w w w'):IsB base b v l w' :=
 ⟨h.blk.imp (fun hk=>hk.keep (hb.block _ hk.lt)) (fun hk=>hk.keep (hb.block _ hk.lt)),aR h.own fun _ hg=>hb.block _ (aC h.own hg).2,h.ne⟩
theorem IsB.lt{base:Nat}{v:Value}{l:List UInt8}{w:World}(h:IsB base b v l w):b<w.heap.size:=h.blk.elim Blk.lt Blk.lt
def WrT(b:Nat)(v:Value)(w:World)(v':Value)(w':World):Prop:=Chg (BdM b v) w w'∧∀k,v'.ownBlock=some k→v.ownBlock=some k∨w.heap.size≤k
theorem WrT.trans{v v'':Value}{w w' w'':World}(h:WrT b v w v' w')(k:WrT b v' w' v'' w''):WrT b v w v'' w'':=by refine⟨h.1.trans k.1 fun i hi hm=>?_,fun i hi=>?_⟩;(·rcases hm with hm|hm;(·exact .inl hm);(·rcases h.2 i hm with h1|h1;(·exact .inr h1);(·omega)));(·rcases k.2 i hi with h1|h1;(·exact h.2 i h1);(·exact .inr (tD h.1.size h1)))
theorem WrT.of_below{v:Value}{w w':World}(h:Below w w w'):WrT b v w v w':=⟨.of_below h,fun _ hk=>.inl hk⟩
theorem WrT.refl(b:Nat)(v:Value)(w:World):WrT b v w v w:=⟨.refl w,fun _ hk=>.inl hk⟩
theorem WrT.below{base:Nat}{v:Value}{l:List UInt8}{w w':World}(h:WrT b v w v' w')(hb:IsB base b v l w)(hbase:base≤b):Below base w w' :=
 h.1.below (by have:=hb.lt;omega) fun k hk=>by
  rcases hk with rfl|hk
  ·exact hbase
  ·exact(aC hb.own hk).1
theorem WrT.keeps{v:Value}{w w':World}(h:WrT b v w v' w'){D:Nat→Prop}(hD:∀k,D k→k<w.heap.size∧¬BdM b v k):lE D w w':=h.1.keeps hD
theorem WrT.block{v:Value}{w w':World}(h:WrT b v w v' w'){k:Nat}(hk:k<w.heap.size)(hn:¬BdM b v k):w'.heap[k]?=w.heap[k]?:=h.1.block k hk hn
theorem WrT.apart{v:Value}{w w':World}(h:WrT b v w v' w'){k:Nat}(hk:k<w.heap.size)(hn:¬BdM b v k):¬BdM b v' k:=by rintro(rfl|h1);(·exact hn (.inl rfl));(·rcases h.2 k h1 with h2|h2;(·exact hn (.inr h2));(·omega))
theorem joinL_snoc:∀(l:List (List UInt8)) (x:List UInt8),l≠[]→bV (l++[x])=bV l++44::x
 | [],_,h=>(h rfl).elim
 | [a],x,_=>by simp[bV]
 |a::c::l,x,_=>by
  have:=joinL_snoc (c::l) x QM
  simp only[vZ,bV]at this ⊢;rw[this];simp
theorem joinL_first{l:List (List UInt8)}{x:List UInt8}(h:l[0]?=some x):bV (l.take 1)=x:=by (cases l with|nil=>simp at h|cons a l=>simp at h;simp[bV,h])
theorem joinL_next{l:List (List UInt8)}{i:Nat}{x:List UInt8}(hi:0<i)(h:l[i]?=some x):bV (l.take (i+1))=bV (l.take i)++44::x:=by have hl:i<l.length:=(by rcases vM i l.length with h1|h1;(·exact h1);(·rw[tW h1]at h;cases h));rw[sY,h];refine joinL_snoc _ _ fun e=>?_;have:=congrArg List.length e;rw[tH,tT]at this;omega
theorem joinL_mono:∀(l:List (List UInt8)) (i:Nat),(bV (l.take i)).length≤(bV l).length:=fun l i=>by
 by_cases h:l.length≤i
 ·rw[sS h];exact sE _
 ·induction hn:l.length-i generalizing i with
  |zero=>omega
  |succ n ih =>
   have h1:l[i]?=some l[i]:=sG QZ;have h2:(bV (l.take i)).length≤(bV (l.take (i+1))).length:=by
    by_cases h0:0<i
    ·rw[joinL_next h0 h1,sF];omega
    ·obtain rfl:i=0:=by omega
     simp[bV]
   by_cases h3:l.length≤i+1
   ·rw[sS h3]at h2;exact h2
   ·exact tD h2 (ih (i+1) h3 QZ)
structure TxW(K:List OpI):Prop where
 tx:TxK K
 rows:Rows1 K
 ids:∀x∈K,bZ x.2
 len:K.length≤100000
 elem:∀x∈K,x.1.key≠⟨#[]⟩→dO x=(0,0)
 lst:∀x∈K,x.1.vk=6→∀y∈K,dD y=x.2→y.1.key=⟨#[]⟩
structure VOk(K:List OpI)(v:VD):Prop where
 n:I64 v.n
 ab:v.k=5∨v.k=6→bZ (v.a,v.b)
 t:v.k=3→v.t.size≤60
 lst:v.k=6→∀y∈K,dD y=(v.a,v.b)→y.1.key=⟨#[]⟩
theorem TxW.vok{K:List OpI}(h:TxW K)(hx:x∈K):VOk K (iL K x):=by obtain⟨e1,e2,e3,e4⟩:=qK K x;refine⟨rE (e4 (h.tx.num x hx)),fun hk=>?_,fun hk=>?_,fun hk=>?_⟩;(·rw[e1]at hk;rw[e3 (h.tx.made x hx hk)];exact h.ids x hx);(·rw[e1]at hk;rw[e2];exact h.tx.txt x hx hk);(·rw[e1]at hk;rw[e3 (h.tx.made x hx (.inr hk))];exact h.lst x hx hk)
theorem TxW.next{K:List OpI}(h:TxW K){p:Wh}{e:Rf×VD}{r:List (Rf×VD)}(hat:atJ K p=e::r){n:Nat}(hn:1000100-p.1.1<((n+1:Nat):Int)): VOk K e.2∧1≤n∧(e.2.k=5∨e.2.k=6→1000100-e.2.a<(n:Int)):=by obtain⟨x,hx,hl,e1,e2⟩:=first_of hat;have h1:dD x=p.1:=(by rw[←lives_wh hl];rfl);have h2:=h.tx.up x hx;have h3:=h.tx.top x hx;rw[h1]at h2;refine⟨e2▸h.vok hx,by omega,fun hk=>?_⟩;obtain⟨a1,a2,a3,a4⟩:=qK K x;rw[e2,a1]at hk;have h4:=congrArg Prod.fst (a3 (h.tx.made x hx hk));rw[e2];simp only at h4;omega
theorem show_flat(k n a b:Int)(t:ByteArray)(hk:k≠5∧k≠6)(hn:I64 n)(ht:k=3→t.size≤60)(w:World)(hT:PowT w): Calls prog 115 #[.agg #[k,n,t,a,b]] w fun e w'=>e=.returned (.string (bJ k n t a b))∧Below w w w':=by by_cases h1:k=1;(·subst h1;exact show_1 n a b t w);by_cases h2:k=2;(·subst h2;exact show_2 n a b t hn w hT);by_cases h3:k=3;(·subst h3;exact show_3 n a b t (ht rfl) w);by_cases h4:k=4;(·subst h4;exact show_4 n a b t hn w hT);exact show_no k n a b t ⟨h1,h2,h3,h4,hk.1,hk.2⟩ w
theorem stWrite_show(w:World)(base b:Nat)(bv gv:Value)(l:List UInt8)(k n a c:Int)(t:ByteArray)(hk:k≠5∧k≠6)(hn:I64 n)(ht:k=3→t.size≤60)(hT:PowT w)(hb:IsB base b bv l w)(hbase:base≤w.heap.size)(hl:l.length+(bJ k n t a c).data.toList.length≤20000000): Calls prog 72 #[gv,.pointer (some ⟨b,0,none⟩),.agg #[k,n,t,a,c]] w fun e w'=>e=.returned (.tuple #[])∧∃v',IsB base b v' (l++(bJ k n t a c).data.toList) w'∧WrT b bv w v' w':=by have hb1:Below w w (w.alloc (.cells #[k,n,t,a,c] 50)):=(sD _ w).alloc (sE _) _;have HQ:=Hi (Blk.new w 50 #[k,n,t,a,c]);have HB:=Hi hb1;have HW:=Hi hb;have HL:=Hi hl;have HBS:=Hi hbase;have C1:=show_flat k n a c t hk hn ht _ (hT.keep hb1);obtain⟨S,hS⟩:=QX (bJ k n t a c);rw[hS]at C1 HL ⊢;have e5:((k == 5):Bool)=false:=(by simp[hk.1]);have e6:((k == 6):Bool)=false:=(by simp[hk.2]);clear hb1 hb hl hbase hT hS hk ht hn;go_enter func72,ntmps72;go_upto_region 1 with fail;generalize w.alloc (.cells #[k,n,t,a,c] 50)=w0 at HQ HB C1 ⊢;obtain⟨q,hq⟩:=QX w.heap.size;have HQQ:=Hi hq;rw[hq]at HQ ⊢;have HB0:Hid (Below q w w0):=hq▸HB.o;clear hq;obtain⟨q0,q1,q2,q3,q4⟩:=ce5 HQ.o;go_wp2_with fail;go_at_call 115;refine C1.mono ?_;rintro e w1 ⟨rfl,hbs⟩;have HB1:=ZX HB hbs;have HW1:Hid (IsB base b bv l w1):=HW.o.keepB HB1.o;have hlS:S.data.toList.length=S.size:=uU;have C2:=rD base b bv l S w1 HW1.o (by have:=HL.o;omega) (by have:=HL.o;omega) (tD HBS.o HB1.o.size);clear hbs C1 q0 q1 q2 q3 q4 hlS HQ HB0 HB;go_wp2_with fail;go_at_call 113;refine C2.mono ?_;rintro e w2 ⟨rfl,v',hi,hc,hv⟩;have HI:=Hi hi;have HT:Hid (WrT b bv w v' w2):=(WrT.of_below HB1.o).trans ⟨hc,hv⟩;clear hi hc hv C2;go_wp2_with fail;refine bodyPost_end (results_none rfl _ _ _) rfl ?_;exact⟨rfl,v',HI.o,HT.o⟩
end Go.Proofs.YtmpkejflgpodkaaGreatDoor
