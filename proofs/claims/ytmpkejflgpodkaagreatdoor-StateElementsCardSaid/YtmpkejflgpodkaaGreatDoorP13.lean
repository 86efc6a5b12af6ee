/- Contracts of the document's books: may. -/
import Derived.Test.YtmpkejflgpodkaaGreatDoorP12
import Derived.Deep.DeepCutAuto
set_option linter.unusedVariables false
set_option linter.unusedSimpArgs false
namespace Go.Proofs.YtmpkejflgpodkaaGreatDoor
open Go.ChangeShapes Go.WideShapes Go.ChangeAt Go.RowKit
theorem rootB_obj (x : OpI) : rootB x.1.on x.1.oa=decide (objP x=(0,0)):=by
 unfold rootB objP
 by_cases h1 : x.1.on=0 <;> by_cases h2 : x.1.oa=0 <;> simp [h1,h2]
theorem rootB_el (x : OpI) : rootB x.1.en x.1.ea=decide (elP x=(0,0)):=by
 unfold rootB elP
 by_cases h1 : x.1.en=0 <;> by_cases h2 : x.1.ea=0 <;> simp [h1,h2]
theorem keyOkP_eq (x : OpI) (kd : Int) : keyOkP x kd=!(decide (kd=5) && x.1.key.toList.isEmpty || decide (kd=6) && !x.1.key.toList.isEmpty):=by
 have e : decide (x.1.key=⟨#[]⟩)=x.1.key.toList.isEmpty:=by
  rw [dec_key]
  have : (⟨#[]⟩ : ByteArray).toList=[]:=by rw [ByteArray.toList_eq]
  rw [this]
  cases x.1.key.toList <;> simp
 have e2 : decide (x.1.key≠⟨#[]⟩)=!x.1.key.toList.isEmpty:=by rw [← e];simp
 unfold keyOkP
 rw [e,e2]
theorem opi_cells {w : World} {D : Nat→Prop} {A : Option Addr} {K : List OpI} {n k : Nat} {y : OpI} (h : Reads D w 15 A n (opsIC K)) (hn : K.length=n) (hk : K[k]?=some y) :
 ∃ b o,A=some ⟨b,o,none⟩∧D b∧∀ i v,i < 15→(opIC y)[i]?=some v→w.cell? ⟨b,o+k*15+i,none⟩=some v:=by
 have hkl:=(List.getElem?_eq_some_iff.1 hk).1
 obtain ⟨b,o,e,hb,hc⟩:=h.at_ (by omega) (by omega)
 refine ⟨b,o,e,hb,fun i v hi hv=>?_⟩
 have h3:=opsIC_at hk i hi
 rw [hv] at h3
 have:=hc _ _ h3
 rwa [← Nat.add_assoc] at this
set_option maxHeartbeats 16000000 in
set_option maxRecDepth 20000 in
theorem smay_any (x : OpI) (K : List OpI) (A : Option Addr) (c : Nat) (w : World) (hK : Reads (fun k=>k < w.heap.size) w 15 A K.length (opsIC K)) (hx : Reads (fun k=>k < w.heap.size) w 2 x.1.A x.1.l.length (refC x.1.l))
 (hl : K.length≤1000000000) (hxl : x.1.l.length≤1000000000) :
 Calls Tryz.prog 82 #[opIV x,.slice A K.length c] w fun e w'=>e=.returned (.bool (mayP x K))∧Below w.heap.size w w':=by
 obtain ⟨n,hn⟩ : ∃ n,K.length=n:=⟨_,rfl⟩
 obtain ⟨nx,hnx⟩ : ∃ n,x.1.l.length=n:=⟨_,rfl⟩
 have HN:=Lib.hid hn
 have HNX:=Lib.hid hnx
 have HK:=Lib.hid hK
 have HX:=Lib.hid hx
 have HQ:=Lib.hid (Blk.new w 90 #[.int .i64 x.1.k,.int .i64 x.1.on,.int .i64 x.1.oa,.string x.1.key,.int .i64 x.1.en,.int .i64 x.1.ea,.bool x.1.ins,.int .i64 x.1.vk,.int .i64 x.1.vn,.string x.1.vt,.int .i64 x.1.va,.int .i64 x.1.vb,.slice x.1.A x.1.l.length x.1.c,.int .i64 x.2.1,.int .i64 x.2.2])
 have HB : Hid (Below w.heap.size w (w.alloc (.cells #[.int .i64 x.1.k,.int .i64 x.1.on,.int .i64 x.1.oa,.string x.1.key,.int .i64 x.1.en,.int .i64 x.1.ea,.bool x.1.ins,.int .i64 x.1.vk,.int .i64 x.1.vn,.string x.1.vt,.int .i64 x.1.va,.int .i64 x.1.vb,.slice x.1.A x.1.l.length x.1.c,.int .i64 x.2.1,.int .i64 x.2.2] 90))):=(Below.refl _ w).alloc (Nat.le_refl _) _
 have hsz : (w.alloc (.cells #[.int .i64 x.1.k,.int .i64 x.1.on,.int .i64 x.1.oa,.string x.1.key,.int .i64 x.1.en,.int .i64 x.1.ea,.bool x.1.ins,.int .i64 x.1.vk,.int .i64 x.1.vn,.string x.1.vt,.int .i64 x.1.va,.int .i64 x.1.vb,.slice x.1.A x.1.l.length x.1.c,.int .i64 x.2.1,.int .i64 x.2.2] 90)).heap.size=w.heap.size+1:=by simp
 unfold opIV
 rw [hn] at hl ⊢
 rw [hnx] at hxl HQ HB hsz ⊢
 have H1:=fun W (r : Rf) h=>slook_any K r (fun k=>k < W.heap.size) A c W h (fun _ h=>h) (by rw [HN.out];omega)
 rw [hn] at H1
 clear hn hnx hK hx
 go_enter Tryz.func82,Tryz.ntmps82
 go_wp2_with fail
 go_at_call 30
 refine (refRoot_any _ _ _).mono ?_
 rintro e w1 ⟨rfl,hb⟩
 replace HQ:=Lib.hid (HQ.out.keep (hb.block _ HQ.out.lt))
 replace HB : Hid (Below w.heap.size w w1):=HB.out.trans (hb.mono HB.out.size)
 clear hb
 clear hsz
 rw [rootB_obj]
 obtain ⟨rb,hrb⟩ : ∃ rb,decide (objP x=(0,0))=rb:=⟨_,rfl⟩
 rw [hrb]
 have HRB:=Lib.hid hrb
 clear hrb
 go_upto_if 17 with fail
 go_cut [5] (fun s5 wc=>∃ kd : Int,s5=.int .i64 kd∧Hid (kindP x K=some kd)∧Hid (Blk wc w.heap.size 90 #[.int .i64 x.1.k,.int .i64 x.1.on,.int .i64 x.1.oa,.string x.1.key,.int .i64 x.1.en,.int .i64 x.1.ea,.bool x.1.ins,.int .i64 x.1.vk,.int .i64 x.1.vn,.string x.1.vt,.int .i64 x.1.va,.int .i64 x.1.vb,.slice x.1.A nx x.1.c,.int .i64 x.2.1,.int .i64 x.2.2])∧Hid (Below w.heap.size w wc))
 case first =>
  cases rb with
  | true =>
    have HD : Hid (kindP x K=some 5):=by show _=_;unfold kindP;rw [if_pos (of_decide_eq_true HRB.out)]
    go_wp2_with fail
    go_meet
    case rel=>exact ⟨5,rfl,HD,HQ,HB⟩
  | false =>
    have HR:=Lib.hid (of_decide_eq_false HRB.out)
    have c1 : w1.cell? ⟨w.heap.size,1,none⟩=some (.int .i64 x.1.on):=HQ.out.cell 1
    have c2 : w1.cell? ⟨w.heap.size,2,none⟩=some (.int .i64 x.1.oa):=HQ.out.cell 2
    have C:=H1 w1 (objP x) (by rw [← HN.out];exact reads_below HK.out HB.out)
    go_wp2_with fail
    go_at_call 31
    refine C.mono ?_
    rintro e w2 ⟨i,rfl,hi,hb⟩
    replace HQ:=Lib.hid (HQ.out.keep (hb.block _ HQ.out.lt))
    replace HB : Hid (Below w.heap.size w w2):=HB.out.trans (hb.mono HB.out.size)
    clear hb
    clear c1 c2
    clear C
    rcases hi with ⟨rfl,hno⟩ | ⟨kk,y,rfl,hy,hlk⟩
    · have HF : Hid (mayP x K=false):=by show _=_;unfold mayP kindP;rw [if_neg HR.out,hno]
      clear hno
      go_wp2_with fail
      go_ret
      exact ⟨by rw [HF.out];rfl,HB.out⟩
    · have hK2:=reads_below HK.out HB.out
      rw [HN.out] at hK2
      obtain ⟨b,o,hA,-,key⟩:=opi_cells hK2 HN.out hy
      subst hA
      have hkn : kk < n:=by rw [← HN.out];exact (List.getElem?_eq_some_iff.1 hy).1
      have d0 : w2.cell? ⟨b,o+kk*15,none⟩=some (.int .i64 y.1.k):=key 0 _ (by omega) rfl
      have d7 : w2.cell? ⟨b,o+kk*15+7,none⟩=some (.int .i64 y.1.vk):=key 7 _ (by omega) rfl
      have hk0 : decide ((kk : Int) < 0)=false:=decide_eq_false (by omega)
      clear key hK2
      by_cases h2 : y.1.k=2
      · have HD : Hid (kindP x K=some y.1.vk):=by show _=_;unfold kindP;rw [if_neg HR.out,hlk];simp only [h2,if_true]
        have e1 : (y.1.k != 2)=false:=by simp [h2]
        clear hlk hy h2
        go_wp2_with fail
        go_meet
        case rel=>exact ⟨_,rfl,HD,HQ,HB⟩
      · have HF : Hid (mayP x K=false):=by show _=_;unfold mayP kindP;rw [if_neg HR.out,hlk];simp only [h2,if_false]
        have e1 : (y.1.k != 2)=true:=by simp [h2]
        clear hlk hy h2
        go_wp2_with fail
        go_ret
        exact ⟨by rw [HF.out];rfl,HB.out⟩
 case rest =>
  clear HQ HB
  obtain ⟨kd,rfl,HKD,HQ,HB⟩:=hcut
  have c3 : wc.cell? ⟨w.heap.size,3,none⟩=some (.string x.1.key):=HQ.out.cell 3
  go_upto_region 8 with fail
  go_cut [58] (fun s58 wd=>s58=.bool (!keyOkP x kd)∧Hid (Blk wd w.heap.size 90 #[.int .i64 x.1.k,.int .i64 x.1.on,.int .i64 x.1.oa,.string x.1.key,.int .i64 x.1.en,.int .i64 x.1.ea,.bool x.1.ins,.int .i64 x.1.vk,.int .i64 x.1.vn,.string x.1.vt,.int .i64 x.1.va,.int .i64 x.1.vb,.slice x.1.A nx x.1.c,.int .i64 x.2.1,.int .i64 x.2.2])∧Hid (Below w.heap.size w wd))
  case first =>
   have HKY:=Lib.hid (keyOkP_eq x kd)
   by_cases h5 : kd=5
   · subst h5
     cases hk : x.1.key.toList.isEmpty <;> rw [hk] at HKY
     all_goals
      go_wp2_with fail
      go_meet
      case rel=>exact ⟨by rw [HKY.out];rfl,HQ,HB⟩
   · have e5 : (kd == 5)=false:=by simp [h5]
     by_cases h6 : kd=6
     · subst h6
       cases hk : x.1.key.toList.isEmpty <;> rw [hk] at HKY
       all_goals
        go_wp2_with fail
        go_meet
        case rel=>exact ⟨by rw [HKY.out];rfl,HQ,HB⟩
     · have e6 : (kd == 6)=false:=by simp [h6]
       rw [decide_eq_false h5,decide_eq_false h6] at HKY
       clear h5 h6
       go_wp2_with fail
       go_meet
       case rel=>exact ⟨by rw [HKY.out];rfl,HQ,HB⟩
  case rest =>
   clear c3
   clear HQ HB
   obtain ⟨rfl,HQ,HB⟩:=hcut
   obtain ⟨wd,hwd⟩ : ∃ wd,wd=wc:=⟨_,rfl⟩
   subst hwd
   cases hko : keyOkP x kd with
   | false =>
     have HF : Hid (mayP x K=false):=by show _=_;unfold mayP;rw [HKD.out];simp only [hko,Bool.false_and]
     clear hko
     go_wp2_with fail
     go_ret
     exact ⟨by rw [HF.out];rfl,HB.out⟩
   | true =>
     have HKO:=Lib.hid hko
     clear hko
     have c4 : wd.cell? ⟨w.heap.size,4,none⟩=some (.int .i64 x.1.en):=HQ.out.cell 4
     have c5 : wd.cell? ⟨w.heap.size,5,none⟩=some (.int .i64 x.1.ea):=HQ.out.cell 5
     go_wp2_with fail
     go_at_call 30
     refine (refRoot_any _ _ _).mono ?_
     rintro e w3 ⟨rfl,hb⟩
     replace HQ:=Lib.hid (HQ.out.keep (hb.block _ HQ.out.lt))
     replace HB : Hid (Below w.heap.size w w3):=HB.out.trans (hb.mono HB.out.size)
     clear hb
     clear c4 c5
     rw [rootB_el]
     obtain ⟨re,hre⟩ : ∃ re,decide (elP x=(0,0))=re:=⟨_,rfl⟩
     rw [hre]
     have HRE:=Lib.hid hre
     clear hre
     go_upto_if 64 with fail
     go_cut [] (fun wc=>Hid (elemOkP x K=true)∧Hid (Blk wc w.heap.size 90 #[.int .i64 x.1.k,.int .i64 x.1.on,.int .i64 x.1.oa,.string x.1.key,.int .i64 x.1.en,.int .i64 x.1.ea,.bool x.1.ins,.int .i64 x.1.vk,.int .i64 x.1.vn,.string x.1.vt,.int .i64 x.1.va,.int .i64 x.1.vb,.slice x.1.A nx x.1.c,.int .i64 x.2.1,.int .i64 x.2.2])∧Hid (Below w.heap.size w wc))
     case first =>
      cases re with
      | true =>
        have HD : Hid (elemOkP x K=true):=by show _=_;unfold elemOkP;rw [if_pos (of_decide_eq_true HRE.out)]
        go_wp2_with fail
        go_meet
        case rel=>exact ⟨HD,HQ,HB⟩
      | false =>
        have HR:=Lib.hid (of_decide_eq_false HRE.out)
        have c4 : w3.cell? ⟨w.heap.size,4,none⟩=some (.int .i64 x.1.en):=HQ.out.cell 4
        have c5 : w3.cell? ⟨w.heap.size,5,none⟩=some (.int .i64 x.1.ea):=HQ.out.cell 5
        have C:=H1 w3 (elP x) (by rw [← HN.out];exact reads_below HK.out HB.out)
        go_wp2_with fail
        go_at_call 31
        refine C.mono ?_
        rintro e w4 ⟨i,rfl,hi,hb⟩
        replace HQ:=Lib.hid (HQ.out.keep (hb.block _ HQ.out.lt))
        replace HB : Hid (Below w.heap.size w w4):=HB.out.trans (hb.mono HB.out.size)
        clear hb
        clear c4 c5
        clear C
        rcases hi with ⟨rfl,hno⟩ | ⟨kk,y,rfl,hy,hlk⟩
        · have HF : Hid (mayP x K=false):=by show _=_;unfold mayP;rw [HKD.out];simp only [elemOkP,if_neg HR.out,hno,Bool.and_false,Bool.false_and]
          clear hno
          go_wp2_with fail
          go_quiet (fail)
          change Exit.then _ _ _ _ (w4.drewN nq)
          replace HB : Hid (Below w.heap.size w (w4.drewN nq)):=below_drewN HB.out nq
          generalize w4.drewN nq=w5 at HB ⊢
          go_wp2_with fail
          go_ret
          exact ⟨by rw [HF.out];rfl,HB.out⟩
        · have hK2:=reads_below HK.out HB.out
          rw [HN.out] at hK2
          obtain ⟨b,o,hA,-,key⟩:=opi_cells hK2 HN.out hy
          subst hA
          have hkn : kk < n:=by rw [← HN.out];exact (List.getElem?_eq_some_iff.1 hy).1
          have d1 : w4.cell? ⟨b,o+kk*15+1,none⟩=some (.int .i64 y.1.on):=key 1 _ (by omega) rfl
          have d2 : w4.cell? ⟨b,o+kk*15+2,none⟩=some (.int .i64 y.1.oa):=key 2 _ (by omega) rfl
          have d6 : w4.cell? ⟨b,o+kk*15+6,none⟩=some (.bool y.1.ins):=key 6 _ (by omega) rfl
          have c1 : w4.cell? ⟨w.heap.size,1,none⟩=some (.int .i64 x.1.on):=HQ.out.cell 1
          have c2 : w4.cell? ⟨w.heap.size,2,none⟩=some (.int .i64 x.1.oa):=HQ.out.cell 2
          clear key hK2
          have hk0 : decide ((kk : Int) < 0)=false:=decide_eq_false (by omega)
          have E:=fun w=>eq_id y.1.on y.1.oa x.1.on x.1.oa w
          have HE : Hid (elemOkP x K=(y.1.ins && (y.1.on == x.1.on && y.1.oa == x.1.oa))):=by
           show _=_
           unfold elemOkP
           rw [if_neg HR.out,hlk]
           show (y.1.ins && decide (objP y=objP x))=_
           rw [show decide (objP y=objP x)=_ from dec_pair ..]
          generalize (y.1.on == x.1.on && y.1.oa == x.1.oa)=bo at E HE
          generalize y.1.ins=bi at d6 HE
          clear hlk hy
          cases bi with
          | false =>
            have HF : Hid (mayP x K=false):=by show _=_;unfold mayP;rw [HKD.out];simp only [HE.out,Bool.false_and,Bool.and_false]
            go_wp2_with fail
            go_quiet (fail)
            change Exit.then _ _ _ _ (w4.drewN nq)
            replace HB : Hid (Below w.heap.size w (w4.drewN nq)):=below_drewN HB.out nq
            replace HQ : Hid (Blk (w4.drewN nq) w.heap.size 90 #[.int .i64 x.1.k,.int .i64 x.1.on,.int .i64 x.1.oa,.string x.1.key,.int .i64 x.1.en,.int .i64 x.1.ea,.bool x.1.ins,.int .i64 x.1.vk,.int .i64 x.1.vn,.string x.1.vt,.int .i64 x.1.va,.int .i64 x.1.vb,.slice x.1.A nx x.1.c,.int .i64 x.2.1,.int .i64 x.2.2]):=HQ.out
            generalize w4.drewN nq=w5 at HB HQ ⊢
            clear c1 c2 d1 d2 d6
            go_wp2_with fail
            go_ret
            exact ⟨by rw [HF.out];rfl,HB.out⟩
          | true =>
            cases bo with
            | false =>
              have HF : Hid (mayP x K=false):=by show _=_;unfold mayP;rw [HKD.out];simp only [HE.out,Bool.false_and,Bool.and_false]
              go_wp2_with fail
              go_quiet (fail)
              change Exit.then _ _ _ _ (w4.drewN nq)
              replace HB : Hid (Below w.heap.size w (w4.drewN nq)):=below_drewN HB.out nq
              replace HQ : Hid (Blk (w4.drewN nq) w.heap.size 90 #[.int .i64 x.1.k,.int .i64 x.1.on,.int .i64 x.1.oa,.string x.1.key,.int .i64 x.1.en,.int .i64 x.1.ea,.bool x.1.ins,.int .i64 x.1.vk,.int .i64 x.1.vn,.string x.1.vt,.int .i64 x.1.va,.int .i64 x.1.vb,.slice x.1.A nx x.1.c,.int .i64 x.2.1,.int .i64 x.2.2]):=HQ.out
              generalize w4.drewN nq=w5 at HB HQ ⊢
              clear c1 c2 d1 d2 d6
              go_wp2_with fail
              go_ret
              exact ⟨by rw [HF.out];rfl,HB.out⟩
            | true =>
              go_wp2_with fail
              go_quiet (fail)
              change Exit.then _ _ _ _ (w4.drewN nq)
              replace HB : Hid (Below w.heap.size w (w4.drewN nq)):=below_drewN HB.out nq
              replace HQ : Hid (Blk (w4.drewN nq) w.heap.size 90 #[.int .i64 x.1.k,.int .i64 x.1.on,.int .i64 x.1.oa,.string x.1.key,.int .i64 x.1.en,.int .i64 x.1.ea,.bool x.1.ins,.int .i64 x.1.vk,.int .i64 x.1.vn,.string x.1.vt,.int .i64 x.1.va,.int .i64 x.1.vb,.slice x.1.A nx x.1.c,.int .i64 x.2.1,.int .i64 x.2.2]):=HQ.out
              generalize w4.drewN nq=w5 at HB HQ ⊢
              clear c1 c2 d1 d2 d6
              go_wp2_with fail
              go_meet
              case rel=>exact ⟨HE.out,HQ,HB⟩
     case rest =>
      clear HQ HB
      obtain ⟨HEO,HQ,HB⟩:=hcut
      have HMAY : Hid (mayP x K=x.1.l.all (predOkP x K)):=by show _=_;unfold mayP;rw [HKD.out];simp only [HKO.out,HEO.out,Bool.true_and]
      clear HKD HKO HEO HRB HRE
      go_wp2_with fail
      go_loopw [9,10,11] (fun s9 _ _ wr=>∃ k : Nat,s9=.int .i64 k∧k≤nx∧Hid ((x.1.l.take k).all (predOkP x K)=true)∧Hid (Blk wr w.heap.size 90 #[.int .i64 x.1.k,.int .i64 x.1.on,.int .i64 x.1.oa,.string x.1.key,.int .i64 x.1.en,.int .i64 x.1.ea,.bool x.1.ins,.int .i64 x.1.vk,.int .i64 x.1.vn,.string x.1.vt,.int .i64 x.1.va,.int .i64 x.1.vb,.slice x.1.A nx x.1.c,.int .i64 x.2.1,.int .i64 x.2.2])∧Hid (Below w.heap.size w wr)) (fun s9 _ _ _=>nx - (intOf s9).toNat)
      case atStart=>exact ⟨0,rfl,by omega,by show _=_;simp,HQ,HB⟩
      case round =>
       clear HQ HB
       obtain ⟨k,rfl,hk,HI,HQ,HB⟩:=hrel
       have c12 : wr.cell? ⟨w.heap.size,12,none⟩=some (.slice x.1.A nx x.1.c):=HQ.out.cell 12
       by_cases hlt : k < nx
       · obtain ⟨p,hp⟩ : ∃ p,x.1.l[k]?=some p:=⟨_,List.getElem?_eq_getElem (by rw [HNX.out];exact hlt)⟩
         obtain ⟨bp,op,hA,-,hcp⟩:=(reads_below HX.out HB.out).at_ (by rw [HNX.out];omega) (by omega)
         have p1 : wr.cell? ⟨bp,op+k*2,none⟩=some (.int .i64 p.1):=hcp _ _ (refC_at hp).1
         have p2 : wr.cell? ⟨bp,op+k*2+1,none⟩=some (.int .i64 p.2):=hcp _ _ (refC_at hp).2
         rw [hA] at c12
         have HP : Hid ((x.1.l.take (k+1)).all (predOkP x K)=((x.1.l.take k).all (predOkP x K) && predOkP x K p)):=by
          show _=_
          rw [List.take_add_one,hp];simp
         have HPA : Hid (predOkP x K p=false→mayP x K=false):=by
          intro h
          rw [HMAY.out]
          cases hh : x.1.l.all (predOkP x K) with
          | false=>rfl
          | true=>rw [List.all_eq_true.1 hh p (List.mem_of_getElem? hp)] at h;cases h
         have C:=H1 wr p (by rw [← HN.out];exact reads_below HK.out HB.out)
         clear hcp hp hA
         go_wp2_with fail
         go_at_call 31
         refine C.mono ?_
         rintro e w4 ⟨i,rfl,hi,hb⟩
         replace HQ:=Lib.hid (HQ.out.keep (hb.block _ HQ.out.lt))
         replace HB : Hid (Below w.heap.size w w4):=HB.out.trans (hb.mono HB.out.size)
         clear hb
         clear C p1 p2 c12
         rcases hi with ⟨rfl,hno⟩ | ⟨kk,y,rfl,hy,hlk⟩
         · have HF : Hid (mayP x K=false):=HPA.out (by unfold predOkP;rw [hno])
           clear hno
           go_wp2_with fail
           go_ret
           exact ⟨by rw [HF.out];rfl,HB.out⟩
         · have hK2:=reads_below HK.out HB.out
           rw [HN.out] at hK2
           obtain ⟨b,o,hA,-,key⟩:=opi_cells hK2 HN.out hy
           subst hA
           have hkn : kk < n:=by rw [← HN.out];exact (List.getElem?_eq_some_iff.1 hy).1
           have hk0 : decide ((kk : Int) < 0)=false:=decide_eq_false (by omega)
           have HPE : Hid (predOkP x K p=(!decide (2 < y.1.k) && placeP y x && !((x.1.k == 4) && ((y.1.k != 1) || (y.1.vk != 4))))):=by
            show _=_
            unfold predOkP
            rw [hlk]
            have e1 : decide (x.1.k=4)=(x.1.k == 4):=by by_cases h : x.1.k=4 <;> simp [h]
            have e2 : decide (y.1.k≠1)=(y.1.k != 1):=by by_cases h : y.1.k=1 <;> simp [h]
            have e3 : decide (y.1.vk≠4)=(y.1.vk != 4):=by by_cases h : y.1.vk=4 <;> simp [h]
            simp only [e1,e2,e3]
           have d0 : w4.cell? ⟨b,o+kk*15,none⟩=some (.int .i64 y.1.k):=key 0 _ (by omega) rfl
           have d1 : w4.cell? ⟨b,o+kk*15+1,none⟩=some (.int .i64 y.1.on):=key 1 _ (by omega) rfl
           have d2 : w4.cell? ⟨b,o+kk*15+2,none⟩=some (.int .i64 y.1.oa):=key 2 _ (by omega) rfl
           have d3 : w4.cell? ⟨b,o+kk*15+3,none⟩=some (.string y.1.key):=key 3 _ (by omega) rfl
           have d4 : w4.cell? ⟨b,o+kk*15+4,none⟩=some (.int .i64 y.1.en):=key 4 _ (by omega) rfl
           have d5 : w4.cell? ⟨b,o+kk*15+5,none⟩=some (.int .i64 y.1.ea):=key 5 _ (by omega) rfl
           have d6 : w4.cell? ⟨b,o+kk*15+6,none⟩=some (.bool y.1.ins):=key 6 _ (by omega) rfl
           have d7 : w4.cell? ⟨b,o+kk*15+7,none⟩=some (.int .i64 y.1.vk):=key 7 _ (by omega) rfl
           have d8 : w4.cell? ⟨b,o+kk*15+8,none⟩=some (.int .i64 y.1.vn):=key 8 _ (by omega) rfl
           have d9 : w4.cell? ⟨b,o+kk*15+9,none⟩=some (.string y.1.vt):=key 9 _ (by omega) rfl
           have d10 : w4.cell? ⟨b,o+kk*15+10,none⟩=some (.int .i64 y.1.va):=key 10 _ (by omega) rfl
           have d11 : w4.cell? ⟨b,o+kk*15+11,none⟩=some (.int .i64 y.1.vb):=key 11 _ (by omega) rfl
           have d12 : w4.cell? ⟨b,o+kk*15+12,none⟩=some (.slice y.1.A y.1.l.length y.1.c):=key 12 _ (by omega) rfl
           have d13 : w4.cell? ⟨b,o+kk*15+13,none⟩=some (.int .i64 y.2.1):=key 13 _ (by omega) rfl
           have d14 : w4.cell? ⟨b,o+kk*15+14,none⟩=some (.int .i64 y.2.2):=key 14 _ (by omega) rfl
           have c0 : w4.cell? ⟨w.heap.size,0,none⟩=some (.int .i64 x.1.k):=HQ.out.cell 0
           have c1 : w4.cell? ⟨w.heap.size,1,none⟩=some (.int .i64 x.1.on):=HQ.out.cell 1
           have c2 : w4.cell? ⟨w.heap.size,2,none⟩=some (.int .i64 x.1.oa):=HQ.out.cell 2
           have c3 : w4.cell? ⟨w.heap.size,3,none⟩=some (.string x.1.key):=HQ.out.cell 3
           have c4 : w4.cell? ⟨w.heap.size,4,none⟩=some (.int .i64 x.1.en):=HQ.out.cell 4
           have c5 : w4.cell? ⟨w.heap.size,5,none⟩=some (.int .i64 x.1.ea):=HQ.out.cell 5
           have c6 : w4.cell? ⟨w.heap.size,6,none⟩=some (.bool x.1.ins):=HQ.out.cell 6
           have c7 : w4.cell? ⟨w.heap.size,7,none⟩=some (.int .i64 x.1.vk):=HQ.out.cell 7
           have c8 : w4.cell? ⟨w.heap.size,8,none⟩=some (.int .i64 x.1.vn):=HQ.out.cell 8
           have c9 : w4.cell? ⟨w.heap.size,9,none⟩=some (.string x.1.vt):=HQ.out.cell 9
           have c10 : w4.cell? ⟨w.heap.size,10,none⟩=some (.int .i64 x.1.va):=HQ.out.cell 10
           have c11 : w4.cell? ⟨w.heap.size,11,none⟩=some (.int .i64 x.1.vb):=HQ.out.cell 11
           have c12 : w4.cell? ⟨w.heap.size,12,none⟩=some (.slice x.1.A nx x.1.c):=HQ.out.cell 12
           have c13 : w4.cell? ⟨w.heap.size,13,none⟩=some (.int .i64 x.2.1):=HQ.out.cell 13
           have c14 : w4.cell? ⟨w.heap.size,14,none⟩=some (.int .i64 x.2.2):=HQ.out.cell 14
           clear key hK2 hlk
           by_cases h2 : 2 < y.1.k
           · have HF : Hid (mayP x K=false):=HPA.out (by rw [HPE.out,decide_eq_true h2];rfl)
             clear hy
             go_wp2_with fail
             go_ret
             exact ⟨by rw [HF.out];rfl,HB.out⟩
           · rw [decide_eq_false h2] at HPE
             have C:=fun W=>splace_any y x W
             unfold opIV at C
             rw [HNX.out] at C
             go_wp2_with fail
             refine wp_region_still_tail 5 (by kernel_rfl) (by kernel_rfl) ?_
             simp only [List.take_succ_cons,List.take_zero,List.drop_succ_cons,List.drop_zero]
             repeat (first | (refine wpStill_want rfl (fun K hK=>?_);go_simp;refine hK _ ?_;clear hK K) | (refine wpStill_skip rfl ?_;go_frame))
             refine wpStill_nil ?_
             change wpList _ _ _ _ _ w4.drew
             replace HB : Hid (Below w.heap.size w w4.drew):=HB.out.drew
             replace HQ : Hid (Blk w4.drew w.heap.size 90 #[.int .i64 x.1.k,.int .i64 x.1.on,.int .i64 x.1.oa,.string x.1.key,.int .i64 x.1.en,.int .i64 x.1.ea,.bool x.1.ins,.int .i64 x.1.vk,.int .i64 x.1.vn,.string x.1.vt,.int .i64 x.1.va,.int .i64 x.1.vb,.slice x.1.A nx x.1.c,.int .i64 x.2.1,.int .i64 x.2.2]):=HQ.out
             generalize w4.drew=w5 at HB HQ ⊢
             clear c0 c1 c2 c3 c4 c5 c6 c7 c8 c9 c10 c11 c12 c13 c14
             clear d0 d1 d2 d3 d4 d5 d6 d7 d8 d9 d10 d11 d12 d13 d14
             go_wp2_with fail
             go_at_call 36
             refine (C w5).mono ?_
             rintro e w6 ⟨rfl,hb⟩
             replace HQ:=Lib.hid (HQ.out.keep (hb.block _ HQ.out.lt))
             replace HB : Hid (Below w.heap.size w w6):=HB.out.trans (hb.mono HB.out.size)
             clear hb
             clear C
             have hK2:=reads_below HK.out HB.out
             rw [HN.out] at hK2
             obtain ⟨b',o',hA,-,key⟩:=opi_cells hK2 HN.out hy
             simp only [Option.some.injEq,Addr.mk.injEq,and_true] at hA
             obtain ⟨rfl,rfl⟩:=hA
             have d0 : w6.cell? ⟨b,o+kk*15,none⟩=some (.int .i64 y.1.k):=key 0 _ (by omega) rfl
             have d7 : w6.cell? ⟨b,o+kk*15+7,none⟩=some (.int .i64 y.1.vk):=key 7 _ (by omega) rfl
             have c0 : w6.cell? ⟨w.heap.size,0,none⟩=some (.int .i64 x.1.k):=HQ.out.cell 0
             clear key hK2 hy h2
             generalize placeP y x=pl at HPE ⊢
             cases pl with
             | false =>
               have HF : Hid (mayP x K=false):=HPA.out (by rw [HPE.out];rfl)
               go_wp2_with fail
               go_ret
               exact ⟨by rw [HF.out];rfl,HB.out⟩
             | true =>
               cases h4 : (x.1.k == 4) with
               | false =>
                 have HI2 : Hid ((x.1.l.take (k+1)).all (predOkP x K)=true):=by show _=_;rw [HP.out,HI.out,HPE.out,h4];rfl
                 clear HPE HPA HP
                 go_wp2_with fail
                 go_roundw
                 case rel=>exact ⟨k+1,by go_num,by omega,HI2,HQ,HB⟩
                 case measure=>simp [intOf];omega
               | true =>
                 cases h1 : (y.1.k != 1) with
                 | true =>
                   have HF : Hid (mayP x K=false):=HPA.out (by rw [HPE.out,h4,h1];rfl)
                   go_wp2_with fail
                   go_ret
                   exact ⟨by rw [HF.out];rfl,HB.out⟩
                 | false =>
                   cases h7 : (y.1.vk != 4) with
                   | true =>
                     have HF : Hid (mayP x K=false):=HPA.out (by rw [HPE.out,h4,h1,h7];rfl)
                     go_wp2_with fail
                     go_ret
                     exact ⟨by rw [HF.out];rfl,HB.out⟩
                   | false =>
                     have HI2 : Hid ((x.1.l.take (k+1)).all (predOkP x K)=true):=by show _=_;rw [HP.out,HI.out,HPE.out,h4,h1,h7];rfl
                     clear HPE HPA HP
                     go_wp2_with fail
                     go_roundw
                     case rel=>exact ⟨k+1,by go_num,by omega,HI2,HQ,HB⟩
                     case measure=>simp [intOf];omega
       · have HF : Hid (mayP x K=true):=by have:=HI.out;rw [List.take_of_length_le (by rw [HNX.out];omega)] at this;rw [HMAY.out,this];rfl
         go_wp2_with fail
         go_ret
         exact ⟨by rw [HF.out];rfl,HB.out⟩
end Go.Proofs.YtmpkejflgpodkaaGreatDoor
