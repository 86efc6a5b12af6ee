/- The law's Changes: region 35 of its switch. -/
import Derived.Test.YtjhkcbideddlgaaGreatP29
set_option maxHeartbeats 16000000
set_option linter.unusedVariables false
set_option linter.unusedSimpArgs false
namespace Go.Proofs.YtjhkcbideddlgaaGreat
open Go.ChangeShapes Go.WideShapes Go.ChangeAt Go.RowKit Go.Proofs.YtjhkcbideddlgaaGreat.Loc
set_option maxRecDepth 40000 in
theorem chs35{w w6:World}{i no q ob oo cO hb ho cH p:Nat}{G:Nat→Nat}{O:List Rf}{o1 o2:Int}{a:iM}(hp:p<i)(HQW:Hid (w.heap.size≤q))(HR0:Hid (Rnd w i G (.slice (some ⟨ob,oo,none⟩) no cO) (.slice (some ⟨hb,ho,none⟩) i cH) no (aF O) q (q+1) o1 o2 w6))
 (ATC:Hid (∀V,Below w.heap.size w V→∀i:Int,0≤i→Calls Tryz.prog 27 #[a.val,.int .i64 i] V fun e w'=>(∃x:Int,e=.returned (.int .i64 x)∧(-9223372036854775808≤x∧x≤9223372036854775807)∧IntKind.i64.wrap x=x)∧w'=V))
 {Q:Exit→Act→World→Prop} (hP:∀(c:_) (a:Act) (d:_) (v:Value) (w:World),Q (.panic c) (a.put d v) w→Q (.panic c) a w) (u0 u1 u2 u3 u4 u5 u6 u7 u8 u9 u14 u15 u16 u17 u18 u19 u20 u21 u22 u23 u24 u25 u26 u27 u28 u29 u30 u31 u32 u33 u34 u35 u36 u37 u38 u39 u40 u41 u42 u43 u44 u45 u46 u47 u48 u49 u50 u51 u52 u53 u54 u55 u56 u57 u58 u59 u60 u61 u62 u63 u64 u65 u66 u67 u68 u69 u70 u71 u72 u73 u74 u75 u76 u77 u78 u79 u80 u81 u82 u83 u84 u85 u86 u87 u88 u89 u90 u91 u92 u93 u94 u95 u96 u97 u98 u99 u100 u101 u102 u103 u104 u105 u106 u107 u108 u109 u110 u111 u112 u113 u114 u115 u116 u117 u118 u119 u120 u121 u122 u123 u124 u125 u126 u127 u128 u129 u130 u131 u132 u133 u134 u135 u136 u137 u138 u139 u140 u141 u142 u143 u144 u145 u146 u147 u148 u149 u150 u151 u152 u153 u154 u155 u156 u157 u158 u159 u160 u161 u162 u163 u164 u165 u166 u167 u168 u169 u170 u171 u172 u173 u174 u175 u176 u177 u178 u179 u180 u181 u182 u183 u184 u185 u186 u187 u188 u189 u190 u191 u192 u193 u194 u195 u196 u197 u198 u199 u200 u201 u202 u203 u204 u205 u206 u207 u208 u209 u210 u211 u212 u213 u214 u215 u216 u217 u218 u219 u220 u221 u222 u223 u224 u225 u226 u227 u228 u229:Value)
 (hK:∀(v174 v175 v176 v177 v178 v179 v180 v181 v182:Value) (w':World),Rnd w i G (.slice (some ⟨ob,oo,none⟩) no cO) (.slice (some ⟨hb,ho,none⟩) i cH) no (aF O) q (q+1) o1 o2 w'→Q .normal ⟨#[u0,u1,u2,u3,u4,u5,u6,u7,u8,u9,a.val,.pointer (some ⟨G p,0,none⟩),.pointer (some ⟨q,0,none⟩),.pointer (some ⟨q+1,0,none⟩),u14,u15,u16,u17,u18,u19,u20,u21,u22,u23,u24,u25,u26,u27,u28,u29,u30,u31,u32,u33,u34,u35,u36,u37,u38,u39,u40,u41,u42,u43,u44,u45,u46,u47,u48,u49,u50,u51,u52,u53,u54,u55,u56,u57,u58,u59,u60,u61,u62,u63,u64,u65,u66,u67,u68,u69,u70,u71,u72,u73,u74,u75,u76,u77,u78,u79,u80,u81,u82,u83,u84,u85,u86,u87,u88,u89,u90,u91,u92,u93,u94,u95,u96,u97,u98,u99,u100,u101,u102,u103,u104,u105,u106,u107,u108,u109,u110,u111,u112,u113,u114,u115,u116,u117,u118,u119,u120,u121,u122,u123,u124,u125,u126,u127,u128,u129,u130,u131,u132,u133,u134,u135,u136,u137,u138,u139,u140,u141,u142,u143,u144,u145,u146,u147,u148,u149,u150,u151,u152,u153,u154,u155,u156,u157,u158,u159,u160,u161,u162,u163,u164,u165,u166,u167,u168,u169,u170,u171,u172,u173,v174,v175,v176,v177,v178,v179,v180,v181,v182,u183,u184,u185,u186,u187,u188,u189,u190,u191,u192,u193,u194,u195,u196,u197,u198,u199,u200,u201,u202,u203,u204,u205,u206,u207,u208,u209,u210,u211,u212,u213,u214,u215,u216,u217,u218,u219,u220,u221,u222,u223,u224,u225,u226,u227,u228,u229],[]⟩ w') :
 Code.wp Tryz.prog (chR 35) Q ⟨#[u0,u1,u2,u3,u4,u5,u6,u7,u8,u9,a.val,.pointer (some ⟨G p,0,none⟩),.pointer (some ⟨q,0,none⟩),.pointer (some ⟨q+1,0,none⟩),u14,u15,u16,u17,u18,u19,u20,u21,u22,u23,u24,u25,u26,u27,u28,u29,u30,u31,u32,u33,u34,u35,u36,u37,u38,u39,u40,u41,u42,u43,u44,u45,u46,u47,u48,u49,u50,u51,u52,u53,u54,u55,u56,u57,u58,u59,u60,u61,u62,u63,u64,u65,u66,u67,u68,u69,u70,u71,u72,u73,u74,u75,u76,u77,u78,u79,u80,u81,u82,u83,u84,u85,u86,u87,u88,u89,u90,u91,u92,u93,u94,u95,u96,u97,u98,u99,u100,u101,u102,u103,u104,u105,u106,u107,u108,u109,u110,u111,u112,u113,u114,u115,u116,u117,u118,u119,u120,u121,u122,u123,u124,u125,u126,u127,u128,u129,u130,u131,u132,u133,u134,u135,u136,u137,u138,u139,u140,u141,u142,u143,u144,u145,u146,u147,u148,u149,u150,u151,u152,u153,u154,u155,u156,u157,u158,u159,u160,u161,u162,u163,u164,u165,u166,u167,u168,u169,u170,u171,u172,u173,u174,u175,u176,u177,u178,u179,u180,u181,u182,u183,u184,u185,u186,u187,u188,u189,u190,u191,u192,u193,u194,u195,u196,u197,u198,u199,u200,u201,u202,u203,u204,u205,u206,u207,u208,u209,u210,u211,u212,u213,u214,u215,u216,u217,u218,u219,u220,u221,u222,u223,u224,u225,u226,u227,u228,u229],[]⟩ w6:=by
 conv=>arg 2;whnf
 have HRd:Hid (Rnd w i G (.slice (some ⟨ob,oo,none⟩) no cO) (.slice (some ⟨hb,ho,none⟩) i cH) no (aF O) q (q+1) o1 o2 w6.drew):=HR0.o.drew;have hS0:w6.drew.cell? ⟨q,0,none⟩=some (.int .i64 o1)∧w6.drew.cell? ⟨q,1,none⟩=some (.int .i64 o2):=⟨HRd.o.ob.cell 0,HRd.o.ob.cell 1⟩;have hbD:=fun vk vn va vb vt w=>bldD 4 o1 o2 vk vn va vb vt w
 have hbW:=fun v w=>bldW 2 v w
 obtain⟨SS,hSS⟩:∃SS:World→Prop,SS=fun V=>V.cell? ⟨q,0,none⟩=some (.int .i64 o1)∧V.cell? ⟨q,1,none⟩=some (.int .i64 o2):=⟨_,rfl⟩
 have HSI:∀V,(V.cell? ⟨q,0,none⟩=some (.int .i64 o1)∧V.cell? ⟨q,1,none⟩=some (.int .i64 o2))→SS V:=fun V h=>by rw[hSS];exact h
 have HSO:∀V,SS V→(V.cell? ⟨q,0,none⟩=some (.int .i64 o1)∧V.cell? ⟨q,1,none⟩=some (.int .i64 o2)):=fun V h=>by rw[hSS]at h;exact h
 have HSI:=Hi HSI;have HSO:=Hi HSO;clear hSS;refine wp_region_held_drew (S:=SS) (by kernel_rfl) (HSI.o _ hS0) (fun hHeld=>?_);refine aK (i:=0) (v:=?_) rfl (by kernel_rfl) (by kernel_rfl) (by kernel_rfl) (fun _ _ _ h=>hP _ _ _ _ _ h) (Or.inl ⟨by rfl,?_⟩) hHeld ?_
 rotate_left
 ·(intro w _;go_simp;try with_reducible rfl)
 try simp only[Act.put,zA,zB,zC]
 refine aK (i:=1) (v:=?_) rfl (by kernel_rfl) (by kernel_rfl) (by kernel_rfl) (fun _ _ _ h=>hP _ _ _ _ _ h) (Or.inl ⟨by rfl,?_⟩) hHeld ?_
 rotate_left
 ·(intro w hSw;obtain⟨y1,y2⟩:=HSO.o _ hSw;go_simp;try with_reducible rfl)
 try simp only[Act.put,zA,zB,zC]
 refine aK (i:=2) (v:=?_) rfl (by kernel_rfl) (by kernel_rfl) (by kernel_rfl) (fun _ _ _ h=>hP _ _ _ _ _ h) (Or.inl ⟨by rfl,?_⟩) hHeld ?_
 rotate_left
 ·(intro w _;go_simp;try with_reducible rfl)
 try simp only[Act.put,zA,zB,zC]
 refine aK (i:=6) (v:=?_) rfl (by kernel_rfl) (by kernel_rfl) (by kernel_rfl) (fun _ _ _ h=>hP _ _ _ _ _ h) (Or.inl ⟨by rfl,?_⟩) hHeld ?_
 rotate_left
 ·(intro w _;go_simp;try with_reducible rfl)
 try simp only[Act.put,zA,zB,zC]
 refine wpAnyH_ready (rs:=[3]) (by kernel_rfl) (by simp) ?_;refine bK (i:=3) rfl (fun K hK=>?_) sZ;go_simp;refine Calls.mono (ATC.out _ HRd.o.bl 4 (by decide)) ?_;rintro e w71 ⟨⟨x4,rfl,hx4,hxw4⟩,rfl⟩;have hS71:=hS0;refine hK.out _ _ (HSI.o _ hS71) (fun hHeld=>?_);clear hK K;try simp only[Act.put,zA,zB,zC]
 refine aK (i:=4) (v:=?_) rfl (by kernel_rfl) (by kernel_rfl) (by kernel_rfl) (fun _ _ _ h=>hP _ _ _ _ _ h) (Or.inl ⟨by rfl,?_⟩) hHeld ?_
 rotate_left
 ·(intro w _;go_simp;try with_reducible rfl)
 try simp only[Act.put,zA,zB,zC]
 refine aK (i:=5) (v:=?_) rfl (by kernel_rfl) (by kernel_rfl) (by kernel_rfl) (fun _ _ _ h=>hP _ _ _ _ _ h) (Or.inl ⟨by rfl,?_⟩) hHeld ?_
 rotate_left
 ·(intro w _;go_simp;try with_reducible rfl)
 try simp only[Act.put,zA,zB,zC]
 refine wpAnyH_ready (rs:=[7]) (by kernel_rfl) (by simp) ?_;refine bK (i:=7) rfl (fun K hK=>?_) sZ;go_simp;refine Calls.mono (ATC.out _ HRd.o.bl 3 (by decide)) ?_;rintro e w72 ⟨⟨x3,rfl,hx3,hxw3⟩,rfl⟩;have hS72:=hS0;refine hK.out _ _ (HSI.o _ hS72) (fun hHeld=>?_);clear hK K;try simp only[Act.put,zA,zB,zC]
 refine wpAnyH_ready (rs:=[8]) (by kernel_rfl) (by simp) ?_;refine bK (i:=8) rfl (fun K hK=>?_) sZ;go_simp;refine Calls.mono (nT HRd.o.hx HRd.o.bl.size HRd.o.lt hp (⟨4,o1,o2,⟨#[]⟩,0,0,false,2,x4,⟨#[]⟩,0,0,none,0,[]⟩:OpD) (by show(1:Int)≤4;decide) hxw4 rfl x3) ?_;rintro e w73 ⟨⟨n1,n2,n3,rfl,hnI⟩,hst⟩;have HR73:=Hi (HRd.o.step hst);have hS73:w73.cell? ⟨q,0,none⟩=some (.int .i64 o1)∧w73.cell? ⟨q,1,none⟩=some (.int .i64 o2):=⟨HR73.o.ob.cell 0,HR73.o.ob.cell 1⟩;refine hK.out _ _ (HSI.o _ hS73) (fun hHeld=>?_);clear hK K;try simp only[Act.put,zA,zB,zC]
 refine wpAnyH_done (by kernel_rfl) ?_ _;clear hHeld HSI HSO;apply hK;exact HR73.o
end Go.Proofs.YtjhkcbideddlgaaGreat
