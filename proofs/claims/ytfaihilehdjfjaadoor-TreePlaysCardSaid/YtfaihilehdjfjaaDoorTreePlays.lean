/- The law TreePlays, walked. -/
import Derived.Test.YtfaihilehdjfjaaDoorPlayH
import Derived.Test.YtfaihilehdjfjaaDoorOpenB
namespace Go.Proofs.YtfaihilehdjfjaaDoor
open Go.ChangeShapes Go.WideShapes Go.ChangeAt Go.RowKit

theorem getD_wf {s : List Int} (h : ∀ x ∈ s, (Lit.int .i64 x).wf = true) (i : Nat) : -9223372036854775808 ≤ s.getD i 0 ∧ s.getD i 0 ≤ 9223372036854775807 := by
  rw [List.getD_eq_getElem?_getD]
  cases hx : s[i]? with
  | none => simp
  | some x => exact wf_i64_bd (h x (List.mem_of_getElem? hx))
def playMu (a : Act) (_ : World) : Nat := 200 - (intOf (a.tmps.getD 6 undef)).toNat
def stepOf : Code → Option Code
  | .seq (.block 1 c) r => some r
  | .seq a b => match stepOf a with
    | some c => some c
    | none => stepOf b
  | .loop c => stepOf c
  | .block _ c => stepOf c
  | .scope c => stepOf c
  | _ => none
noncomputable def playStep : Code := (Tryd.f5.body.bind stepOf).getD .skip
set_option maxHeartbeats 4000000 in
set_option maxRecDepth 40000 in
theorem step_ {w w'' : World} {E : Value} {b i : Nat} {a' : Act} {Q : Exit → Act → World → Prop} (h : PlayS w E b i a' w'') (hi : i < 200) (hQ : ∀ a2 w2, PlayL w E b a2 w2 → playMu a2 w2 = 200 - (i + 1) → Q .normal a2 w2) :
    Code.wp Tryd.prog playStep Q a' w'' := by
  obtain ⟨⟨hs, hd, h0, h3⟩, h6, t, k, v4, v5, h4, h5, HI⟩ := h
  refine frame_of (fun a => At a 0 E → At a 3 (.pointer (some ⟨b, 0, none⟩)) → At a 6 (.int .i64 i) → At a 4 v4 → At a 5 v5 → Code.wp Tryd.prog playStep Q a w'') hs hd ?_ h0 h3 h6 h4 h5
  intro u0 u1 u2 u3 u4 u5 u6 u7 u8 u9 u10 u11 u12 u13 u14 u15 u16 u17 u18 u19 u20 u21 u22 u23 u24 u25 u26 u27 u28 u29 u30 u31 u32 u33 u34 u35 u36 u37 u38 u39 u40 u41 u42 u43 u44 u45 u46 u47 u48 u49 u50 u51 u52 u53 u54 u55 u56 u57 u58 u59 u60 u61 u62 u63 u64 u65 u66 u67 u68 u69 u70 u71 u72 u73 u74 u75 u76 u77 u78 u79 u80 u81 u82 u83 u84 u85 u86 u87 u88 u89 u90 u91 u92 u93 u94 u95 u96 u97 u98 u99 u100 u101 u102 u103 u104 u105 u106 u107 u108 u109 u110 u111 u112 u113 u114 u115 u116 u117 u118 u119 u120 u121 u122 u123 u124 u125 u126 u127 u128 u129 u130 u131 u132 u133 u134 u135 u136 u137 u138 u139 u140 u141 u142 u143 u144 u145 u146 u147 u148 u149 u150 u151 u152 u153 u154 u155 u156 u157 u158 u159 u160 u161 u162 u163 u164 u165 u166 u167 u168 u169 u170 u171 u172 u173 u174 u175 u176 u177 u178 u179 u180 u181 u182 u183 u184 u185 u186 u187 u188 u189 u190 u191 u192 u193 u194 u195 u196 u197 u198 u199 u200 u201 u202 u203 u204 u205 u206 u207 u208 u209 u210 u211 u212 u213 u214 u215 u216 u217 u218 u219 u220 u221 u222 u223 u224 u225 u226 u227 u228 u229 u230 u231 u232 u233 u234 u235 u236 u237 u238 u239 u240 u241 u242 u243 u244 u245 u246 u247 u248 u249 u250 u251 u252 u253 u254 u255 u256 u257 u258 u259 u260 u261 u262 u263 u264 u265 u266 u267 u268 u269 u270 u271 u272 u273 u274 u275 u276 u277 u278 u279 u280 u281 u282 u283 u284 u285 u286 u287 u288 u289 u290 u291 u292 u293 u294 u295 u296 u297 u298 u299 u300 u301 u302 u303 u304 u305 u306 u307 u308 u309 u310 u311 u312 u313 u314 u315 u316 u317 u318 u319 u320 u321 u322 u323 u324 u325 u326 u327 h0 h3 h6 h4 h5
  have e0 : u0 = E := Option.some.inj h0
  have e3 : u3 = .pointer (some ⟨b, 0, none⟩) := Option.some.inj h3
  have e4 : u4 = v4 := Option.some.inj h4
  have e5 : u5 = v5 := Option.some.inj h5
  have e6 : u6 = .int .i64 i := Option.some.inj h6
  subst e0 e3 e4 e5 e6
  clear h0 h3 h4 h5 h6 hs hd
  have hq2 : ∀ a2 w2, (PlayL w u0 b a2 w2 ∧ playMu a2 w2 = 200 - (i + 1)) → Q .normal a2 w2 := fun a2 w2 h => hQ a2 w2 h.1 h.2
  clear hQ
  conv => arg 2; whnf
  go_wp2_with fail
  refine ⟨⟨⟨rfl, rfl, rfl, rfl⟩, i + 1, t, k, _, _, rfl, rfl, rfl, by omega, HI⟩, ?_⟩
  show 200 - (intOf (.int .i64 ((i : Int) + 1))).toNat = _
  simp only [intOf]
  omega
set_option maxHeartbeats 4000000 in
set_option maxRecDepth 40000 in
theorem round_ (u1 u2 u7 u8 u9 u10 u11 u12 u13 u14 u15 u16 u17 u18 u19 u20 u21 u22 u23 u24 u25 u26 u27 u28 u29 u30 u31 u32 u33 u34 u35 u36 u37 u38 u39 u40 u41 u42 u43 u44 u45 u46 u47 u48 u49 u50 u51 u52 u53 u54 u55 u56 u57 u58 u59 u60 u61 u62 u63 u64 u65 u66 u67 u68 u69 u70 u71 u72 u73 u74 u75 u76 u77 u78 u79 u80 u81 u82 u83 u84 u85 u86 u87 u88 u89 u90 u91 u92 u93 u94 u95 u96 u97 u98 u99 u100 u101 u102 u103 u104 u105 u106 u107 u108 u109 u110 u111 u112 u113 u114 u115 u116 u117 u118 u119 u120 u121 u122 u123 u124 u125 u126 u127 u128 u129 u130 u131 u132 u133 u134 u135 u136 u137 u138 u139 u140 u141 u142 u143 u144 u145 u146 u147 u148 u149 u150 u151 u152 u153 u154 u155 u156 u157 u158 u159 u160 u161 u162 u163 u164 u165 u166 u167 u168 u169 u170 u171 u172 u173 u174 u175 u176 u177 u178 u179 u180 u181 u182 u183 u184 u185 u186 u187 u188 u189 u190 u191 u192 u193 u194 u195 u196 u197 u198 u199 u200 u201 u202 u203 u204 u205 u206 u207 u208 u209 u210 u211 u212 u213 u214 u215 u216 u217 u218 u219 u220 u221 u222 u223 u224 u225 u226 u227 u228 u229 u230 u231 u232 u233 u234 u235 u236 u237 u238 u239 u240 u241 u242 u243 u244 u245 u246 u247 u248 u249 u250 u251 u252 u253 u254 u255 u256 u257 u258 u259 u260 u261 u262 u263 u264 u265 u266 u267 u268 u269 u270 u271 u272 u273 u274 u275 u276 u277 u278 u279 u280 u281 u282 u283 u284 u285 u286 u287 u288 u289 u290 u291 u292 u293 u294 u295 u296 u297 u298 u299 u300 u301 u302 u303 u304 u305 u306 u307 u308 u309 u310 u311 u312 u313 u314 u315 u316 u317 u318 u319 u320 u321 u322 u323 u324 u325 u326 u327 : Value) (w wr : World) (b i k n c : Nat) (A : Option Addr) (t : T) (v4 v5 : Value) (L : List RowV) (Q0 : Exit → Act → World → Prop) (hE : Hid (ErrT w)) (hi : i ≤ 200) (hn : Hid (L.length = n))
    (HI : Hid (PlayI w wr b t k v4 v5 ∧ t.cnt ≤ i ∧ k ≤ 1000 * i)) (HR : Hid (Reads (· < w.heap.size) w 1 A L.length (L.map RowV.val))) (HO : Hid (∀ a ∈ L, a.ok w))
    (hexit : ∀ a' w'', a'.tmps.size = 328 ∧ a'.defers = [] ∧ Below w.heap.size w w'' → Q0 (.exit 0) a' w'') :
    Code.wp Tryd.prog playBody (Exit.then (fun a' w'' => PlayL w (.slice A n c) b a' w'' ∧ playMu a' w'' < playMu ⟨#[.slice A n c, u1, u2, .pointer (some ⟨b, 0, none⟩), v4, v5, .int .i64 i, u7, u8, u9, u10, u11, u12, u13, u14, u15, u16, u17, u18, u19, u20, u21, u22, u23, u24, u25, u26, u27, u28, u29, u30, u31, u32, u33, u34, u35, u36, u37, u38, u39, u40, u41, u42, u43, u44, u45, u46, u47, u48, u49, u50, u51, u52, u53, u54, u55, u56, u57, u58, u59, u60, u61, u62, u63, u64, u65, u66, u67, u68, u69, u70, u71, u72, u73, u74, u75, u76, u77, u78, u79, u80, u81, u82, u83, u84, u85, u86, u87, u88, u89, u90, u91, u92, u93, u94, u95, u96, u97, u98, u99, u100, u101, u102, u103, u104, u105, u106, u107, u108, u109, u110, u111, u112, u113, u114, u115, u116, u117, u118, u119, u120, u121, u122, u123, u124, u125, u126, u127, u128, u129, u130, u131, u132, u133, u134, u135, u136, u137, u138, u139, u140, u141, u142, u143, u144, u145, u146, u147, u148, u149, u150, u151, u152, u153, u154, u155, u156, u157, u158, u159, u160, u161, u162, u163, u164, u165, u166, u167, u168, u169, u170, u171, u172, u173, u174, u175, u176, u177, u178, u179, u180, u181, u182, u183, u184, u185, u186, u187, u188, u189, u190, u191, u192, u193, u194, u195, u196, u197, u198, u199, u200, u201, u202, u203, u204, u205, u206, u207, u208, u209, u210, u211, u212, u213, u214, u215, u216, u217, u218, u219, u220, u221, u222, u223, u224, u225, u226, u227, u228, u229, u230, u231, u232, u233, u234, u235, u236, u237, u238, u239, u240, u241, u242, u243, u244, u245, u246, u247, u248, u249, u250, u251, u252, u253, u254, u255, u256, u257, u258, u259, u260, u261, u262, u263, u264, u265, u266, u267, u268, u269, u270, u271, u272, u273, u274, u275, u276, u277, u278, u279, u280, u281, u282, u283, u284, u285, u286, u287, u288, u289, u290, u291, u292, u293, u294, u295, u296, u297, u298, u299, u300, u301, u302, u303, u304, u305, u306, u307, u308, u309, u310, u311, u312, u313, u314, u315, u316, u317, u318, u319, u320, u321, u322, u323, u324, u325, u326, u327], []⟩ wr) Q0) ⟨#[.slice A n c, u1, u2, .pointer (some ⟨b, 0, none⟩), v4, v5, .int .i64 i, u7, u8, u9, u10, u11, u12, u13, u14, u15, u16, u17, u18, u19, u20, u21, u22, u23, u24, u25, u26, u27, u28, u29, u30, u31, u32, u33, u34, u35, u36, u37, u38, u39, u40, u41, u42, u43, u44, u45, u46, u47, u48, u49, u50, u51, u52, u53, u54, u55, u56, u57, u58, u59, u60, u61, u62, u63, u64, u65, u66, u67, u68, u69, u70, u71, u72, u73, u74, u75, u76, u77, u78, u79, u80, u81, u82, u83, u84, u85, u86, u87, u88, u89, u90, u91, u92, u93, u94, u95, u96, u97, u98, u99, u100, u101, u102, u103, u104, u105, u106, u107, u108, u109, u110, u111, u112, u113, u114, u115, u116, u117, u118, u119, u120, u121, u122, u123, u124, u125, u126, u127, u128, u129, u130, u131, u132, u133, u134, u135, u136, u137, u138, u139, u140, u141, u142, u143, u144, u145, u146, u147, u148, u149, u150, u151, u152, u153, u154, u155, u156, u157, u158, u159, u160, u161, u162, u163, u164, u165, u166, u167, u168, u169, u170, u171, u172, u173, u174, u175, u176, u177, u178, u179, u180, u181, u182, u183, u184, u185, u186, u187, u188, u189, u190, u191, u192, u193, u194, u195, u196, u197, u198, u199, u200, u201, u202, u203, u204, u205, u206, u207, u208, u209, u210, u211, u212, u213, u214, u215, u216, u217, u218, u219, u220, u221, u222, u223, u224, u225, u226, u227, u228, u229, u230, u231, u232, u233, u234, u235, u236, u237, u238, u239, u240, u241, u242, u243, u244, u245, u246, u247, u248, u249, u250, u251, u252, u253, u254, u255, u256, u257, u258, u259, u260, u261, u262, u263, u264, u265, u266, u267, u268, u269, u270, u271, u272, u273, u274, u275, u276, u277, u278, u279, u280, u281, u282, u283, u284, u285, u286, u287, u288, u289, u290, u291, u292, u293, u294, u295, u296, u297, u298, u299, u300, u301, u302, u303, u304, u305, u306, u307, u308, u309, u310, u311, u312, u313, u314, u315, u316, u317, u318, u319, u320, u321, u322, u323, u324, u325, u326, u327], []⟩ wr := by
  conv => arg 2; whnf
  by_cases hlt : i < n
  case neg =>
    have hd : decide ((i : Int) < (n : Int)) = false := decide_eq_false (by omega)
    have hd' : decide (i < n) = false := decide_eq_false hlt
    go_wp2_with fail
    exact HI.out.1.work.below
  by_cases h200 : i < 200
  case neg =>
    have hd : decide ((i : Int) < (n : Int)) = true := decide_eq_true (by omega)
    have hd' : decide (i < n) = true := decide_eq_true hlt
    have hd2 : decide ((i : Int) < 200) = false := decide_eq_false (by omega)
    have hd2' : decide (i < 200) = false := decide_eq_false h200
    go_wp2_with fail
    exact HI.out.1.work.below
  have hl : 0 < L.length := by have := hn.out; omega
  obtain ⟨bo, off, rfl, hb2, hc2⟩ := HR.out.at_ hl (by omega)
  have hcell : ∀ j a, L[j]? = some a → wr.cell? ⟨bo, off + j, none⟩ = some a.val := by
    intro j a ha
    rw [World.cell?_of_block (w := w) (HI.out.1.work.below.block bo hb2)]
    exact hc2 j _ (by rw [List.getElem?_map, ha]; rfl)
  obtain ⟨a0, hs⟩ : ∃ a, L[i]? = some a := ⟨_, List.getElem?_eq_getElem (by have := hn.out; omega)⟩
  have hok := HO.out _ (List.mem_of_getElem? hs)
  have hx := hcell i a0 hs
  obtain ⟨A1, c1, s⟩ := a0
  have hx' : wr.cell? ⟨bo, off + i, none⟩ = some (.slice A1 s.length c1) := hx
  have HS : Hid (Reads (· < w.heap.size) w 1 A1 s.length (intsC s)) := hok.2.2.1
  have hw1 := getD_wf hok.2.2.2 1
  have hw0 := Lib.hid (getD_wf hok.2.2.2 0)
  have hd : decide ((i : Int) < (n : Int)) = true := decide_eq_true (by omega)
  have hd' : decide (i < n) = true := decide_eq_true hlt
  clear hcell hok hs hx HO HR hn hexit hc2 hl
  go_upto_region 4 with fail
  rename_i K2 hK2 K hK
  have HK2 := Lib.hid hK2
  clear hK2
  go_wp2_with fail
  apply HK2.out
  refine wp_seq ?_
  refine head_ _ _ _ _ _ _ _ _ _ _ _ _ _ _ _ _ _ _ _ _ _ _ _ _ _ _ _ _ _ _ _ _ _ _ _ _ _ _ _ _ _ _ _ _ _ _ _ _ _ _ _ _ _ _ _ _ _ _ _ _ _ _ _ _ _ _ _ _ _ _ _ _ _ _ _ _ _ _ _ _ _ _ _ _ _ _ _ _ _ _ _ _ _ _ _ _ _ _ _ _ _ _ _ _ _ _ _ _ _ _ _ _ _ _ _ _ _ _ _ _ _ _ _ _ _ _ _ _ _ _ _ _ _ _ _ _ _ _ _ _ _ _ _ _ _ _ _ _ _ _ _ _ _ _ _ _ _ _ _ _ _ _ _ _ _ _ _ _ _ _ _ _ _ _ _ _ _ _ _ _ _ _ _ _ _ _ _ _ _ _ _ _ _ _ _ _ _ _ _ _ _ _ _ _ _ _ _ _ _ _ _ _ _ _ _ _ _ _ _ _ _ _ _ _ _ _ _ _ _ _ _ _ _ _ _ _ _ _ _ _ _ _ _ _ _ _ _ _ _ _ _ _ _ _ _ _ _ _ _ _ _ _ _ _ _ _ _ _ _ _ _ _ _ _ _ _ _ _ _ _ _ _ _ _ _ _ _ _ _ _ _ _ _ _ _ _ _ _ _ _ _ _ _ _ _ _ _ _ _ _ _ _ _ _ _ _ _ _ _ _ _ _ _ w wr b i k n c bo off c1 t v4 v5 A1 s _ hE h200 hlt HI HS hx' hw0 hw1 (fun a' w'' hS => ?_)
  refine step_ hS h200 (fun a2 w2 hL hm => ?_)
  exact ⟨hL, by rw [hm]; show 200 - (i + 1) < 200 - (intOf (.int .i64 (i : Int))).toNat; simp only [intOf, Int.toNat_natCast]; omega⟩

set_option maxRecDepth 40000 in
theorem round_a {w wr : World} {b n c : Nat} {A : Option Addr} {a : Act} {L : List RowV} {Q0 : Exit → Act → World → Prop} (hE : Hid (ErrT w)) (hn : Hid (L.length = n)) (HR : Hid (Reads (· < w.heap.size) w 1 A L.length (L.map RowV.val))) (HO : Hid (∀ a ∈ L, a.ok w))
    (hexit : ∀ a' w'', a'.tmps.size = 328 ∧ a'.defers = [] ∧ Below w.heap.size w w'' → Q0 (.exit 0) a' w'') (h : PlayL w (.slice A n c) b a wr) :
    Code.wp Tryd.prog playBody (Exit.then (fun a' w'' => PlayL w (.slice A n c) b a' w'' ∧ playMu a' w'' < playMu a wr) Q0) a wr := by
  obtain ⟨⟨hs, hd, h0, h3⟩, i, t, k, v4, v5, h4, h5, h6, hi, HI⟩ := h
  refine frame_of (fun a => At a 0 (.slice A n c) → At a 3 (.pointer (some ⟨b, 0, none⟩)) → At a 6 (.int .i64 i) → At a 4 v4 → At a 5 v5 → Code.wp Tryd.prog playBody (Exit.then (fun a' w'' => PlayL w (.slice A n c) b a' w'' ∧ playMu a' w'' < playMu a wr) Q0) a wr) hs hd ?_ h0 h3 h6 h4 h5
  intro u0 u1 u2 u3 u4 u5 u6 u7 u8 u9 u10 u11 u12 u13 u14 u15 u16 u17 u18 u19 u20 u21 u22 u23 u24 u25 u26 u27 u28 u29 u30 u31 u32 u33 u34 u35 u36 u37 u38 u39 u40 u41 u42 u43 u44 u45 u46 u47 u48 u49 u50 u51 u52 u53 u54 u55 u56 u57 u58 u59 u60 u61 u62 u63 u64 u65 u66 u67 u68 u69 u70 u71 u72 u73 u74 u75 u76 u77 u78 u79 u80 u81 u82 u83 u84 u85 u86 u87 u88 u89 u90 u91 u92 u93 u94 u95 u96 u97 u98 u99 u100 u101 u102 u103 u104 u105 u106 u107 u108 u109 u110 u111 u112 u113 u114 u115 u116 u117 u118 u119 u120 u121 u122 u123 u124 u125 u126 u127 u128 u129 u130 u131 u132 u133 u134 u135 u136 u137 u138 u139 u140 u141 u142 u143 u144 u145 u146 u147 u148 u149 u150 u151 u152 u153 u154 u155 u156 u157 u158 u159 u160 u161 u162 u163 u164 u165 u166 u167 u168 u169 u170 u171 u172 u173 u174 u175 u176 u177 u178 u179 u180 u181 u182 u183 u184 u185 u186 u187 u188 u189 u190 u191 u192 u193 u194 u195 u196 u197 u198 u199 u200 u201 u202 u203 u204 u205 u206 u207 u208 u209 u210 u211 u212 u213 u214 u215 u216 u217 u218 u219 u220 u221 u222 u223 u224 u225 u226 u227 u228 u229 u230 u231 u232 u233 u234 u235 u236 u237 u238 u239 u240 u241 u242 u243 u244 u245 u246 u247 u248 u249 u250 u251 u252 u253 u254 u255 u256 u257 u258 u259 u260 u261 u262 u263 u264 u265 u266 u267 u268 u269 u270 u271 u272 u273 u274 u275 u276 u277 u278 u279 u280 u281 u282 u283 u284 u285 u286 u287 u288 u289 u290 u291 u292 u293 u294 u295 u296 u297 u298 u299 u300 u301 u302 u303 u304 u305 u306 u307 u308 u309 u310 u311 u312 u313 u314 u315 u316 u317 u318 u319 u320 u321 u322 u323 u324 u325 u326 u327 h0 h3 h6 h4 h5
  have e0 : u0 = .slice A n c := Option.some.inj h0
  have e3 : u3 = .pointer (some ⟨b, 0, none⟩) := Option.some.inj h3
  have e4 : u4 = v4 := Option.some.inj h4
  have e5 : u5 = v5 := Option.some.inj h5
  have e6 : u6 = .int .i64 i := Option.some.inj h6
  subst e0 e3 e4 e5 e6
  exact round_ u1 u2 u7 u8 u9 u10 u11 u12 u13 u14 u15 u16 u17 u18 u19 u20 u21 u22 u23 u24 u25 u26 u27 u28 u29 u30 u31 u32 u33 u34 u35 u36 u37 u38 u39 u40 u41 u42 u43 u44 u45 u46 u47 u48 u49 u50 u51 u52 u53 u54 u55 u56 u57 u58 u59 u60 u61 u62 u63 u64 u65 u66 u67 u68 u69 u70 u71 u72 u73 u74 u75 u76 u77 u78 u79 u80 u81 u82 u83 u84 u85 u86 u87 u88 u89 u90 u91 u92 u93 u94 u95 u96 u97 u98 u99 u100 u101 u102 u103 u104 u105 u106 u107 u108 u109 u110 u111 u112 u113 u114 u115 u116 u117 u118 u119 u120 u121 u122 u123 u124 u125 u126 u127 u128 u129 u130 u131 u132 u133 u134 u135 u136 u137 u138 u139 u140 u141 u142 u143 u144 u145 u146 u147 u148 u149 u150 u151 u152 u153 u154 u155 u156 u157 u158 u159 u160 u161 u162 u163 u164 u165 u166 u167 u168 u169 u170 u171 u172 u173 u174 u175 u176 u177 u178 u179 u180 u181 u182 u183 u184 u185 u186 u187 u188 u189 u190 u191 u192 u193 u194 u195 u196 u197 u198 u199 u200 u201 u202 u203 u204 u205 u206 u207 u208 u209 u210 u211 u212 u213 u214 u215 u216 u217 u218 u219 u220 u221 u222 u223 u224 u225 u226 u227 u228 u229 u230 u231 u232 u233 u234 u235 u236 u237 u238 u239 u240 u241 u242 u243 u244 u245 u246 u247 u248 u249 u250 u251 u252 u253 u254 u255 u256 u257 u258 u259 u260 u261 u262 u263 u264 u265 u266 u267 u268 u269 u270 u271 u272 u273 u274 u275 u276 u277 u278 u279 u280 u281 u282 u283 u284 u285 u286 u287 u288 u289 u290 u291 u292 u293 u294 u295 u296 u297 u298 u299 u300 u301 u302 u303 u304 u305 u306 u307 u308 u309 u310 u311 u312 u313 u314 u315 u316 u317 u318 u319 u320 u321 u322 u323 u324 u325 u326 u327 w wr b i k n c A t u4 u5 L Q0 hE hi hn HI HR HO hexit

set_option maxHeartbeats 4000000 in
set_option maxRecDepth 40000 in
theorem treePlays_walk (L : List RowV) (A : Option Addr) (c : Nat) (w : World) (hE : Hid (ErrT w)) (HR : Hid (Reads (· < w.heap.size) w 1 A L.length (L.map RowV.val))) (HO : Hid (∀ a ∈ L, a.ok w)) :
    Calls Tryd.prog 5 #[.slice A L.length c] w fun e w' => e = .returned (.bool true) ∧ Below w.heap.size w w' := by
  obtain ⟨n, hn⟩ : ∃ n, L.length = n := ⟨_, rfl⟩
  have hN := Lib.hid hn
  rw [hn]
  clear hn
  go_enter Tryd.func5, Tryd.ntmps5
  go_wp2_with fail
  go_at_call 20
  refine (new_any w).mono ?_
  rintro e w1 ⟨rfl, hR1, hC1⟩
  have W1 : Hid (PlayI w w1 w.heap.size .nil 0 (.slice none 0 0) (.slice none 0 0)) :=
    ⟨⟨hR1, Nat.le_refl _, by simp [T.ads], hC1.below (Nat.le_refl _) fun _ e => e.elim⟩, ⟨own_nil _ _ _ _, own_nil _ _ _ _, fun _ h => by cases h⟩⟩
  clear hR1 hC1
  generalize hb : w.heap.size = b at W1 ⊢
  have HBb := Lib.hid hb
  clear hb
  go_wp2_with fail
  refine wp_loop (PlayL w (.slice A n c) b) playMu ?_ (fun a wr h => round_a hE hN HR HO (fun a' w'' hx => ?_) h)
  · exact ⟨⟨rfl, rfl, rfl, rfl⟩, 0, .nil, 0, _, _, rfl, rfl, rfl, by omega, ⟨W1.out, by simp [T.cnt], by omega⟩⟩
  · rename_i K hK
    obtain ⟨hs, hd, hb⟩ := hx
    show K a' w''
    refine frame_of (fun a => K a w'') hs hd ?_
    intro u0 u1 u2 u3 u4 u5 u6 u7 u8 u9 u10 u11 u12 u13 u14 u15 u16 u17 u18 u19 u20 u21 u22 u23 u24 u25 u26 u27 u28 u29 u30 u31 u32 u33 u34 u35 u36 u37 u38 u39 u40 u41 u42 u43 u44 u45 u46 u47 u48 u49 u50 u51 u52 u53 u54 u55 u56 u57 u58 u59 u60 u61 u62 u63 u64 u65 u66 u67 u68 u69 u70 u71 u72 u73 u74 u75 u76 u77 u78 u79 u80 u81 u82 u83 u84 u85 u86 u87 u88 u89 u90 u91 u92 u93 u94 u95 u96 u97 u98 u99 u100 u101 u102 u103 u104 u105 u106 u107 u108 u109 u110 u111 u112 u113 u114 u115 u116 u117 u118 u119 u120 u121 u122 u123 u124 u125 u126 u127 u128 u129 u130 u131 u132 u133 u134 u135 u136 u137 u138 u139 u140 u141 u142 u143 u144 u145 u146 u147 u148 u149 u150 u151 u152 u153 u154 u155 u156 u157 u158 u159 u160 u161 u162 u163 u164 u165 u166 u167 u168 u169 u170 u171 u172 u173 u174 u175 u176 u177 u178 u179 u180 u181 u182 u183 u184 u185 u186 u187 u188 u189 u190 u191 u192 u193 u194 u195 u196 u197 u198 u199 u200 u201 u202 u203 u204 u205 u206 u207 u208 u209 u210 u211 u212 u213 u214 u215 u216 u217 u218 u219 u220 u221 u222 u223 u224 u225 u226 u227 u228 u229 u230 u231 u232 u233 u234 u235 u236 u237 u238 u239 u240 u241 u242 u243 u244 u245 u246 u247 u248 u249 u250 u251 u252 u253 u254 u255 u256 u257 u258 u259 u260 u261 u262 u263 u264 u265 u266 u267 u268 u269 u270 u271 u272 u273 u274 u275 u276 u277 u278 u279 u280 u281 u282 u283 u284 u285 u286 u287 u288 u289 u290 u291 u292 u293 u294 u295 u296 u297 u298 u299 u300 u301 u302 u303 u304 u305 u306 u307 u308 u309 u310 u311 u312 u313 u314 u315 u316 u317 u318 u319 u320 u321 u322 u323 u324 u325 u326 u327
    refine hK _ _ ?_
    clear hK hs hd
    have HB2 := Lib.hid hb
    clear hb
    go_wp2_with fail
    go_ret
    exact ⟨rfl, HB2.out⟩
end Go.Proofs.YtfaihilehdjfjaaDoor
