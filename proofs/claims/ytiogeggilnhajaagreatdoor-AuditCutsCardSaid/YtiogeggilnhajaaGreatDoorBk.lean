/- Texts of the proof, put together: XD, XC, XE, WA, WB, WC, WG, WH, XF, XG, XH. -/
import Derived.Test.YtiogeggilnhajaaGreatDoorBj
import Derived.Test.YtiogeggilnhajaaGreatDoorBe
import Derived.Test.YtiogeggilnhajaaGreatDoorBh
import Derived.Shelf.Strings.Builder1
import Derived.Shelf.RegionOpenPlain
import Derived.Shelf.Strings.Fields
import Derived.Shelf.Strconv.Itoa4
import Derived.Lib.ItoaLen
set_option maxHeartbeats 8000000
set_option linter.unusedSimpArgs false
set_option linter.unusedVariables false
set_option maxRecDepth 100000
namespace Go.Proofs
open Go Go.Pl Tryz
def w9 (c:IC):V:=.agg [iI c.num,iI c.bk,iI c.bt,iI c.born,iI c.gone,iI c.cj,iI c.read]
def pn (L:List eR) (most:Int) (l:List Ex):List IC × Int:=if (bu L most l).2 = 0 then ((eF (fp L most l) l l.length).aq,0) else ([],(bu L most l).2)
theorem Kw (L:List eR) (most:Int) (l:List Ex) (hL:L.length <= 1000000) (hl:l.length <= 4000000000000000000) (bB:∀ e,e ∈ l -> NE e) (bx:aa):aw prog 18 [ck L most l] bx fun r bx'=>bx' = bx /\ ∃ v,BF 7 ((pn L most l).1.map w9) v /\ r = .dc [v,iI (pn L most l).2]:=by
 obtain ⟨Kc,eZ⟩:∃ Kc:V -> aa -> Prop,Kc = fun r bx'=>bx' = bx /\ ∃ v,BF 7 ((pn L most l).1.map w9) v /\ r = .dc [v,iI (pn L most l).2]:=⟨_,rfl⟩
 rw [<- eZ]
 refine V5 fun hf=>?_
 have hc:=Dc L most l hL hl bx
 have hr:=Hw L most l
 have hg:=fY (gx L most l) l.length
 unfold pn at eZ
 have nJ:=im (L:=L) (most:=most) (l:=l)
 obtain ⟨c,LL⟩:∃ c,bu L most l = c:=⟨_,rfl⟩
 rw [LL] at hc eZ nJ
 obtain ⟨s,hs⟩:∃ s,eF (fp L most l) l l.length = s:=⟨_,rfl⟩
 rw [hs] at hr eZ hg
 obtain ⟨lv,LM⟩:∃ lv,ck L most l = lv:=⟨_,rfl⟩
 have sj:lv.strip = lv /\ lv.az = true /\ okV lv = true /\ lv.cells.length = 3 /\ V.agg (List.take 3 lv.cells) = lv:=by rw [<- LM]; exact ⟨rfl,rfl,rfl,rfl,rfl⟩
 obtain ⟨v1,v2,v3,v4,v5⟩:=sj
 rw [LM] at hc hr ⊢
 simp [go_sem,C18,hf,v1,v2,v3,v4,v5]
 refine ah hc ?_
 by_cases e0:c.2 = 0
 rotate_left
 ·rw [if_neg e0] at eZ
  simp [go_sem,hf,iI,e0]
  refine aA (by simp [go_sem]) ?_
  rw [eZ]
  exact ⟨rfl,.aH,.inr ⟨rfl,rfl⟩,by simp [go_sem,iI]⟩
 rw [if_pos e0] at eZ
 obtain ⟨q1,q2,q3,q4,q5,q6,q7⟩:=nJ e0
 simp [go_sem,hf,v1,v2,v3,v4,v5,iI,e0]
 refine ar (hr (by omega) q6 (fun e he=>uz (q7 e he) (bB e he)) bx) ?_
 rintro r bP ⟨p,ad,rfl,hp,hw⟩
 obtain ⟨pb,pc,pr,pm,pw',hn⟩:=hw.names hp
 have au:=hw.row hn
 unfold iv at au
 have bg:=hw.fin
 have ho:=hw.WU
 have LD:=hw.mcR hn
 have RY:=fun i (hi:i < s.aq.length)=>hw.EN hi
 have iH:=hw.ext
 have X3:=hg.inv.ord
 have aed:=hg.inv.oC
 have jj:=hg.aq
 have JQ:s.ord.length = s.aq.length:=by rw [X3,List.length_map]
 have hlen:=fun bx2=>fW (bx2:=bx2) (t:=60) ho mS
 simp [go_sem,ho.strip,ho.live] at hlen
 simp [go_sem,bg,au,ho.strip,ho.live,hlen]
 cases hc:ad .ord with
 | none =>
   have h0:s.ord = []:=hw.none_ .ord hc trivial
   have hC0:s.aq = []:=by rw [h0] at JQ; exact List.length_eq_zero_iff.1 JQ.symm
   simp only [h0,jJ,List.length_nil]
   refine ch 0 (fun k=>⟨43,bR [(6,.ptr p 13 0 0),(7,.aH),(23,.aH),(24,.int .i64 0),(25,.int .i64 0)],bP⟩) (ak (by simp [go_sem,iI])) (fun k hk N hN=>by omega) (fun N=>?_)
   simp [go_sem,Cy,bg]
   refine bp (by simp [go_sem]) iH ?_
   rw [eZ,hC0]
   exact ⟨rfl,.aH,.inr ⟨rfl,rfl⟩,by simp [go_sem,iI]⟩
 | some b =>
   obtain ⟨dH,A2,_⟩:=hw.at_ .ord b hc
   have A2:bP b = some (.row 2 1 (s.ord.map iI)):=A2
   have zc:=fun k (hk:k < s.aq.length)=>sK s s.aq[k].num ad
   clear hlen ho
   simp only [jJ]
   refine iM (ι:=V × aa) s.aq.length (fun k q=>ba q.2 /\ Ext bP q.2 /\ aY q.2 77 7 ((s.aq.take k).map w9) q.1 /\ kg bP q.1) (fun k q=>⟨43,bR [(6,.ptr p 13 0 0),(7,q.1),(23,.own b 1 0 s.ord.length),(24,.int .i64 s.ord.length),(25,.int .i64 k)],q.2⟩) (.aH,bP) ⟨bg,Ext.refl _,.inl ⟨rfl,rfl⟩,(show kg bP .aH from fun b sz o m e=>by cases e)⟩ (ak (by simp [go_sem,iI])) (fun k q hk hJ N hN=>?_) (fun q hJ N=>?_)
   ·obtain ⟨v,bx2⟩:=q
    obtain ⟨cm,cQ,ho,xZ⟩:=hJ
    dsimp only at cm cQ ho xZ ⊢
    have ja:=bj (k:=k) (by omega)
    have xd:k < s.ord.length:=by omega
    have r1:=(cQ p (by rw [au]; simp)).trans au
    have r2:=(cQ b (by rw [A2]; simp)).trans A2
    have r3:=(cQ pc (by rw [LD]; simp)).trans LD
    obtain ⟨bc,Xu,hrc⟩:=RY k hk
    have r4:=(cQ bc (by rw [hrc]; simp)).trans hrc
    have hfk:=zc k hk
    have aee:(s.aq.map (·.num)).findIdx? (· == s.aq[k].num) = some k:=by
     rw [List.findIdx?_eq_some_iff_getElem]
     refine ⟨by simpa using hk,by simp,fun j hj=>?_⟩
     have:=List.nodup_iff_pairwise_ne.1 aed
     rw [List.pairwise_iff_getElem] at this
     have:=this j k (by rw [List.length_map]; omega) (by simpa using hk) hj
     simpa using this
    rw [aee] at hfk
    simp only [Option.map_some,dJ Xu] at hfk
    have c8:s.ord[k] = s.aq[k].num:=by simp [X3]
    simp [go_sem,Cy,hk,xd,cm,r1,r2,r3,r4,iI,c8,hfk,qx,ho.strip,ho.live,ho.cells,ho.okV]
    intro b7 Ey
    have Rr:=ho.beside Ey (some (bF.row 77 7 [V.agg [V.int .i64 s.aq[k].num,V.int .i64 s.aq[k].bk,V.int .i64 s.aq[k].bt,V.int .i64 s.aq[k].born,V.int .i64 s.aq[k].gone,V.int .i64 s.aq[k].cj,V.int .i64 s.aq[k].read]]))
    have aef:bP b7 = none:=cQ.none Ey
    have LN:ba (aB bx2 b7 (some (bF.row 77 7 [V.agg [V.int .i64 s.aq[k].num,V.int .i64 s.aq[k].bk,V.int .i64 s.aq[k].bt,V.int .i64 s.aq[k].born,V.int .i64 s.aq[k].gone,V.int .i64 s.aq[k].cj,V.int .i64 s.aq[k].read]]))):=(an _ _ _).2 cm
    have Pq:Ext bP (aB bx2 b7 (some (bF.row 77 7 [V.agg [V.int .i64 s.aq[k].num,V.int .i64 s.aq[k].bk,V.int .i64 s.aq[k].bt,V.int .i64 s.aq[k].born,V.int .i64 s.aq[k].gone,V.int .i64 s.aq[k].cj,V.int .i64 s.aq[k].read]]))):=cQ.aJ aef _
    have Hy:aB bx2 b7 (some (bF.row 77 7 [V.agg [V.int .i64 s.aq[k].num,V.int .i64 s.aq[k].bk,V.int .i64 s.aq[k].bt,V.int .i64 s.aq[k].born,V.int .i64 s.aq[k].gone,V.int .i64 s.aq[k].cj,V.int .i64 s.aq[k].read]])) b7 = (some (bF.row 77 7 [V.agg [V.int .i64 s.aq[k].num,V.int .i64 s.aq[k].bk,V.int .i64 s.aq[k].bt,V.int .i64 s.aq[k].born,V.int .i64 s.aq[k].gone,V.int .i64 s.aq[k].cj,V.int .i64 s.aq[k].read]])):=af _ _ _
    generalize aB bx2 b7 (some (bF.row 77 7 [V.agg [V.int .i64 s.aq[k].num,V.int .i64 s.aq[k].bk,V.int .i64 s.aq[k].bt,V.int .i64 s.aq[k].born,V.int .i64 s.aq[k].gone,V.int .i64 s.aq[k].cj,V.int .i64 s.aq[k].read]])) = bx3 at *
    refine dx (.agg #[.int .i64 0,.int .i64 0,.int .i64 0,.int .i64 0,.int .i64 0,.int .i64 0,.int .i64 0]) Rr LN (news:=[w9 s.aq[k]]) Ub Ue (by simp [go_sem,bM,Hy,iI,w9]) J3 (by simp [go_sem]) (by decide) (by simp [Uf]; omega) (by simp; omega) (by simp [go_sem]) fun v' bx' ha hm _=>?_
    obtain ⟨e1,e2⟩:=hm.base Pq xZ
    have fI:aY bx' 77 7 ((s.aq.take (k + 1)).map w9) v':=by
     rw [List.take_succ_eq_append_getElem hk,List.map_append]; exact ha
    simp [go_sem,hm.fin,ha.strip,ha.live,ha.cells,ha.okV,ja]
    exact hN _ (v',bx') ⟨hm.fin,e1,fI,e2⟩ (ak (by simp [go_sem,iI]))
   ·obtain ⟨v,bx2⟩:=q
    obtain ⟨cm,cQ,ho,xZ⟩:=hJ
    dsimp only at cm cQ ho xZ ⊢
    rw [List.take_of_length_le (Nat.le_refl _)] at ho
    have tg:¬ (s.aq.length:Int) < s.ord.length:=by omega
    simp [go_sem,Cy,cm,ho.strip,ho.live,tg,JQ]
    refine fw 2 (by simp [go_sem,ho.strip,ho.live]) (iH.trans cQ) ?_
    have e4:cK bx2 bx 2 (kG prog ⟨43,bR [(2,v),(3,.int .i64 0)],bx2⟩ [.tmp 2,.tmp 3]) = .dc [cK bx2 bx 1 v,.int .i64 0]:=by simp [go_sem,cK,ho.strip]
    rw [e4,eZ]
    refine ⟨rfl,_,?_,rfl⟩
    rcases ho with ⟨h0,rfl⟩ | ⟨b3,rfl,nU⟩
    ·exact .inr ⟨h0,rfl⟩
    ·exact .inl (fe nU (iH.none (xZ _ _ _ _ rfl)) (by decide) rfl)
def kj (L:List eR) (most:Int) (z:List Ex × Int):V:=if z.2 = 0 then ck L most z.1 else .agg [.aH,iI 0,.aH]
theorem uJ {L:List eR} {most:Int} {l:List Ex} (h:(bu L most l).2 = 0):ga L most l = (kL L most l,0):=by
 unfold ga; rw [if_pos h]; rfl
theorem LR (L:List eR) (most:Int) (l:List Ex) (hL:L.length <= 1000000) (hl:l.length <= 4000000000000000000) (bB:∀ e,e ∈ l -> NE e) (bx:aa):ay prog 21 [ck L most l] bx (.dc [kj L most (fE L most l),iI (fE L most l).2]):=by
 obtain ⟨Kc,eZ⟩:∃ Kc:V -> aa -> Prop,Kc = fun r bx'=>r = .dc [kj L most (fE L most l),iI (fE L most l).2] /\ bx' = bx:=⟨_,rfl⟩
 show aw _ _ _ _ (fun r bx'=>r = .dc [kj L most (fE L most l),iI (fE L most l).2] /\ bx' = bx)
 rw [<- eZ]
 refine V7 fun hf=>?_
 have en:∀ z,fE L most l = z -> Kc (.dc [kj L most z,iI z.2]) bx:=fun z hz=>by rw [eZ,hz]; exact ⟨rfl,rfl⟩
 have hF:=BG L most l hL hl bB
 have hE:∀ (b:Nat) (x:bF),bx b = none -> Ext bx (aB bx b (some x)):=fun b x hb=>(Ext.refl bx).aJ hb _
 simp [go_sem,C21,hf,ck]
 intro b2 cz
 by_cases nJ:(bu L most l).2 = 0
 rotate_left
 ·have hz:fE L most l = ([],(bu L most l).2):=by unfold fE; rw [if_pos nJ]
  have hf0:ga L most l = ([],(bu L most l).2):=by unfold ga; rw [if_neg nJ]
  rw [hf0] at hF
  refine ah (hF _) ?_
  simp [go_sem,hf,iI,nJ,af,an]
  refine bp (by simp [go_sem,af]) (hE _ _ cz) ?_
  have:=en _ hz
  simpa [go_sem,af,kj,nJ,iI] using this
 rw [uJ nJ] at hF
 refine ah (hF _) ?_
 cases pY:kL L most l with
 | nil =>
   have hz:fE L most l = ([],4):=by unfold fE; rw [if_neg (by simpa using nJ),pY]
   simp [go_sem,hf,iI,af,an]
   refine bp (by simp [go_sem,af]) (hE _ _ cz) ?_
   have:=en _ hz
   simpa [go_sem,af,kj,iI] using this
 | cons f t =>
   by_cases h60:60 <= f.2
   ·have hz:fE L most l = ([],3):=by unfold fE; rw [if_neg (by simpa using nJ),pY]; dsimp only; rw [if_pos h60]
    have hg:¬ ((t.length:Int) + 1 = 0):=by omega
    simp [go_sem,hf,iI,af,an,bH,h60,hg]
    refine bp (by simp [go_sem,af]) (hE _ _ cz) ?_
    have:=en _ hz
    simpa [go_sem,af,kj,iI] using this
   have hz:fE L most l = (E5 L most (l.take (f.2.toNat + 1)),0):=by unfold fE; rw [if_neg (by simpa using nJ),pY]; dsimp only; rw [if_neg h60]
   obtain ⟨q1,q2,q3,q4,q5,q6,q7⟩:=im nJ
   obtain ⟨m,hm,PW,-⟩:=nm pY
   rw [hm] at h60
   have hg:¬ ((t.length:Int) + 1 = 0):=by omega
   rw [show f.2.toNat = m by omega] at hz
   have hw:IntKind.i64.wrap ((m:Int) + 1) = ((m + 1:Nat):Int):=bj (by omega)
   have hN1:(((m + 1:Nat):Int)).toNat = m + 1:=by omega
   simp [go_sem,hf,iI,af,an,bH,hm,h60,hg]
   refine ah (H2 (L.map bG) (by simp; omega) _) ?_
   simp [go_sem,hf,iI,af,an,bH,hm,h60,hg,hw]
   rw [<- List.map_take]
   obtain ⟨O,hO⟩:∃ O,l.take (m + 1) = O:=⟨_,rfl⟩
   rw [hO] at hz ⊢
   have hOl:O.length = m + 1:=by rw [<- hO,List.length_take]; omega
   have X4:∀ e,e ∈ O -> VE L.length e:=fun e he=>by
    rw [<- hO] at he
    have:=List.mem_of_mem_take he
    exact uz (q7 e this) (bB e this)
   refine ⟨by omega,ah (H0 (O.map ey) (by simp; omega) _) ?_⟩
   simp [go_sem,hf,iI,af,an]
   intro b6 hb6
   have n26:b2 ≠ b6:=by rintro rfl; simp [af] at hb6
   have EB:bx b6 = none:=by rwa [ae _ _ (Ne.symm n26)] at hb6
   have hK:∀ o:List Ex,(∀ e,e ∈ o -> e ∈ O) -> o.length <= O.length -> ∀ bx',ay prog 43 [.agg [.sl 4 (L.map bG),.int .i64 most,.sl 8 (o.map ey)]] bx' (.dc [.sl 1 ((ct L most o).1.map iI),.bool (ct L most o).2]):=fun o h1 h2 bx'=>Km L most o (by omega) (by omega) (fun e he=>X4 e (h1 e he)) bx'
   refine ah (hK O (fun _ h=>h) (Nat.le_refl _) _) ?_
   obtain ⟨want,wA⟩:∃ want,(ct L most O).1 = want:=⟨_,rfl⟩
   have X5:fE L most l = (j5 (kM L most want) O.length O,0):=by rw [hz]; unfold E5 Dh; rw [wA]
   rw [wA]
   obtain ⟨R,hR⟩:∃ R,j5 (kM L most want) O.length O = R:=⟨_,rfl⟩
   rw [hR] at X5
   have hKR:=en _ X5
   clear en hF
   have px:want.length <= 100000:=by
    rw [<- wA]
    unfold ct kK
    have hg:=(fY (gx L most O) O.length).aI
    split
    ·simp
    ·simp; omega
   simp [go_sem,hf,iI,af,an]
   refine pV (ι:=Nat × Nat × List Ex × aa) (fun i=>(ba i.2.2.2 /\ Ext bx i.2.2.2 /\ i.2.2.2 b2 = some (.row 25 3 [.agg [.aH,.int .i64 0,.aH]]) /\ i.2.2.2 b6 = some (.row 25 3 [.agg [.sl 4 (L.map bG),.int .i64 most,.sl 8 (i.2.2.1.map ey)]])) /\ ((∀ e,e ∈ i.2.2.1 -> e ∈ O) /\ i.2.2.1.length <= O.length /\ 1 <= i.2.2.1.length) /\ ((i.1 = i.2.2.1.length /\ i.2.2.1 = R) \/ (i.1 ≠ i.2.2.1.length /\ i.2.2.1.length <= i.2.1 /\ j5 (kM L most want) i.2.1 i.2.2.1 = R)))
    (fun i=>⟨92,bR [(2,.ptr b2 3 0 0),(6,.ptr b6 3 0 0),(7,.sl 1 (want.map iI)),(9,.int .i64 i.1)],i.2.2.2⟩) (fun i=>if i.1 = i.2.2.1.length then 0 else i.2.1) (0,O.length,O,aB (aB bx b2 (some (.row 25 3 [.agg [.aH,.int .i64 0,.aH]]))) b6 (some (.row 25 3 [.agg [.sl 4 (L.map bG),.int .i64 most,.sl 8 (O.map ey)]]))) ⟨⟨(an _ _ _).2 ((an _ _ _).2 hf),(hE b2 _ cz).aJ EB _,by dsimp only; rw [ae _ _ n26,af],af _ _ _⟩,⟨fun _ h=>h,Nat.le_refl _,by dsimp only; omega⟩,.inr ⟨by dsimp only; omega,Nat.le_refl _,hR⟩⟩ (ak (by simp [go_sem,iI])) ?_
   rintro ⟨bf,fu,out,bP⟩ ⟨⟨bg,iH,sP,yH⟩,⟨PF,JQ,c9⟩,JR⟩
   dsimp only at bg iH sP yH PF JQ c9 JR ⊢
   rcases JR with ⟨rfl,rfl⟩ | ⟨vd,hfu,sj⟩
   ·simp [go_sem,Gm,bg,yH,sP]
    refine bp (by simp [go_sem,af]) (iH.aJ cz _) ?_
    simpa [go_sem,af,kj,iI,ck] using hKR
   ·have Bh:¬ ((bf:Int) = (out.length:Int)):=by omega
    obtain ⟨N0,hN0⟩:∃ N0,out.length = N0 + 1:=⟨out.length - 1,by omega⟩
    have Rx:IntKind.i64.wrap ((out.length:Int) - 2) = (N0:Int) - 1 - ((0:Nat):Int):=by rw [gN (by omega)]; omega
    obtain ⟨P,hP⟩:∃ P,fP (kM L most want) N0 out = P:=⟨_,rfl⟩
    have hPl:=lh (kM L most want) N0 out (by omega)
    rw [hP] at hPl
    have X6:∀ e,e ∈ P -> e ∈ O:=fun e he=>PF e ((nK (kM L most want) N0 out).subset (by rw [hP]; exact he))
    obtain ⟨fu',rfl⟩:∃ fu',fu = fu' + 1:=⟨fu - 1,by omega⟩
    have y3:if P.length = out.length then P = R else j5 (kM L most want) fu' P = R:=by
     unfold j5 at sj
     rw [show out.length - 1 = N0 by omega,hP] at sj
     split
     ·rename_i h; rw [if_pos h] at sj; exact sj
     ·rename_i h; rw [if_neg h] at sj; exact sj
    simp [go_sem,Gm,bg,yH,sP,Bh]
    rw [Rx]
    refine iM (ι:=List Ex × aa) N0 (fun j q=>(ba q.2 /\ Ext bx q.2 /\ q.2 b2 = some (.row 25 3 [.agg [.aH,.int .i64 0,.aH]]) /\ q.2 b6 = some (.row 25 3 [.agg [.sl 4 (L.map bG),.int .i64 most,.sl 8 (q.1.map ey)]])) /\ (∀ e,e ∈ q.1 -> e ∈ O) /\ q.1.length <= O.length /\ N0 - j < q.1.length /\ fP (kM L most want) (N0 - j) q.1 = P)
     (fun j q=>⟨92,bR [(2,.ptr b2 3 0 0),(6,.ptr b6 3 0 0),(7,.sl 1 (want.map iI)),(9,.int .i64 out.length),(10,.int .i64 ((N0:Int) - 1 - (j:Int)))],q.2⟩) (out,bP) ⟨⟨bg,iH,sP,yH⟩,PF,JQ,by dsimp only; omega,hP⟩ (ak (by simp [go_sem,iI])) (fun j q hj hJ N hN=>?_) (fun q hJ N=>?_)
    ·obtain ⟨o,bx2⟩:=q
     obtain ⟨⟨cm,cQ,jI,wB⟩,hoo,hoL,ly,y4⟩:=hJ
     dsimp only at cm cQ jI wB hoo hoL ly y4 ⊢
     obtain ⟨k,hk⟩:∃ k,N0 - j = k + 1:=⟨N0 - j - 1,by omega⟩
     have e10:(N0:Int) - 1 - (j:Int) = (k:Int):=by omega
     have e11:(N0:Int) - 1 - ((j + 1:Nat):Int) = (k:Int) - 1:=by omega
     have ja:IntKind.i64.wrap ((k:Int) - 1) = (k:Int) - 1:=gN (by omega)
     have Rw:IntKind.i64.wrap ((k:Int) + 1) = (k:Int) + 1:=gN (by omega)
     rw [e10]
     have DM:(0:Int) <= (k:Int):=by omega
     simp [go_sem,Gl,cm,wB,jI,DM]
     intro b11 hb11
     have n6:b6 ≠ b11:=by rintro rfl; rw [wB] at hb11; cases hb11
     have n2:b2 ≠ b11:=by rintro rfl; rw [jI] at hb11; cases hb11
     have Dm:bx b11 = none:=cQ.none hb11
     have lU:ba (aB bx2 b11 (some (bF.row 25 3 [V.agg [V.sl 4 (List.map bG L),V.int IntKind.i64 most,V.sl 8 (List.map ey o)]]))):=(an _ _ _).2 cm
     have sN:Ext bx (aB bx2 b11 (some (bF.row 25 3 [V.agg [V.sl 4 (List.map bG L),V.int IntKind.i64 most,V.sl 8 (List.map ey o)]]))):=cQ.aJ Dm _
     have yH:aB bx2 b11 (some (bF.row 25 3 [V.agg [V.sl 4 (List.map bG L),V.int IntKind.i64 most,V.sl 8 (List.map ey o)]])) b6 = _:=(ae _ _ n6).trans wB
     have sP:aB bx2 b11 (some (bF.row 25 3 [V.agg [V.sl 4 (List.map bG L),V.int IntKind.i64 most,V.sl 8 (List.map ey o)]])) b2 = _:=(ae _ _ n2).trans jI
     have Kx:aB bx2 b11 (some (bF.row 25 3 [V.agg [V.sl 4 (List.map bG L),V.int IntKind.i64 most,V.sl 8 (List.map ey o)]])) b11 = _:=af _ _ _
     generalize aB bx2 b11 (some (bF.row 25 3 [V.agg [V.sl 4 (List.map bG L),V.int IntKind.i64 most,V.sl 8 (List.map ey o)]])) = bx3 at *
     simp [go_sem,yH,lU]
     refine ar (Hz (o.map ey) (by simp; omega) bx3) ?_
     intro v bx4 ha
     have hoe:o.map ey ≠ []:=by intro h0; rw [List.map_eq_nil_iff] at h0; rw [h0] at ly; simp at ly
     rcases ha.is with ⟨h0,_⟩ | ⟨c,Bl,rfl,hc4⟩
     ·exact absurd h0 hoe
     have Cu:Ext bx bx4:=sN.trans ha.ext
     have k6:bx4 b6 = _:=(ha.ext b6 (by rw [yH]; simp)).trans yH
     have k2:bx4 b2 = _:=(ha.ext b2 (by rw [sP]; simp)).trans sP
     have k11:bx4 b11 = _:=(ha.ext b11 (by rw [Kx]; simp)).trans Kx
     have lI:=ha.fin
     have m6:b6 ≠ c:=by rintro rfl; rw [yH] at Bl; cases Bl
     have m2:b2 ≠ c:=by rintro rfl; rw [sP] at Bl; cases Bl
     have m11:b11 ≠ c:=by rintro rfl; rw [Kx] at Bl; cases Bl
     have Ax:bx c = none:=sN.none Bl
     clear ha
     simp [go_sem,lI,Rw]
     have hd:=BJ (i:=k) hc4 (by simp; omega)
     have ed:(o.map ey).take k ++ (o.map ey).drop (k + 1) = (bK o k).map ey:=by unfold bK; rw [List.map_append,List.map_take,List.map_drop]
     rw [ed,List.length_map] at hd
     refine ar hd ?_
     rintro r jt ⟨rfl,qt⟩
     have nG:ba jt:=by rw [qt]; exact (an _ _ _).2 lI
     have EP:Ext bx jt:=by rw [qt]; exact Cu.aJ Ax _
     have j6:jt b6 = bx4 b6:=by rw [qt,ae _ _ m6]
     rw [k6] at j6
     have j2:jt b2 = bx4 b2:=by rw [qt,ae _ _ m2]
     rw [k2] at j2
     have j11:jt b11 = bx4 b11:=by rw [qt,ae _ _ m11]
     rw [k11] at j11
     clear qt k6 k2 k11 yH sP Kx lU lI sN Cu hc4
     have n611:b6 ≠ b11:=n6
     simp [go_sem,nG,j11,af]
     have hDl:=jX (l:=o) (k:=k) (by omega)
     have X7:∀ e,e ∈ bK o k -> e ∈ O:=fun e he=>hoo e ((pg o k).subset he)
     refine ah (hK (bK o k) X7 (by omega) _) ?_
     have qW:fP (kM L most want) k (iP (kM L most want) o k) = P:=by rw [hk] at y4; exact y4
     have ou:N0 - (j + 1) = k:=by omega
     cases vC:(ct L most (bK o k)).2
     ·have ht:iP (kM L most want) o k = o:=by unfold iP kM; rw [vC]; rfl
      rw [ht] at qW
      simp [go_sem,nG,j11,af,an]
      refine js (.bool false) (by simp [go_sem]) ?_
      simp [go_sem,nG,j11,af,an,ja]
      have fR:=fun s=>hN s (o,aB jt b11 (some (.row 25 3 [.agg [.sl 4 (L.map bG),.int .i64 most,.sl 8 ((bK o k).map ey)]]))) ⟨⟨(an _ _ _).2 nG,EP.aJ Dm _,by dsimp only; rw [ae _ _ n2,j2],by dsimp only; rw [ae _ _ n6,j6]⟩,hoo,hoL,by dsimp only; omega,by rw [ou]; exact qW⟩
      dsimp only at fR
      rw [e11] at fR
      exact fR _ (ak (by simp [go_sem,iI]))
     ·have AN:(ct L most (bK o k)).1.length <= 100000:=by
       unfold ct kK
       have hg:=(fY (gx L most (bK o k)) (bK o k).length).aI
       split
       ·simp
       ·simp; omega
      simp [go_sem,nG,j11,af,an]
      refine dI (Kn _ want (by omega) _) (by simp) (by simp [go_sem]) ?_
      by_cases hq:(ct L most (bK o k)).1 = want
      ·have ht:iP (kM L most want) o k = bK o k:=by unfold iP kM; rw [vC,decide_eq_true hq]; rfl
       rw [ht] at qW
       simp [go_sem,nG,j11,af,an,hq,ae _ _ n6,j6,ja]
       have fR:=fun s=>hN s (bK o k,aB (aB jt b11 (some (.row 25 3 [.agg [.sl 4 (L.map bG),.int .i64 most,.sl 8 ((bK o k).map ey)]]))) b6 (some (.row 25 3 [.agg [.sl 4 (L.map bG),.int .i64 most,.sl 8 ((bK o k).map ey)]]))) ⟨⟨(an _ _ _).2 ((an _ _ _).2 nG),(EP.aJ Dm _).aJ EB _,by dsimp only; rw [ae _ _ n26,ae _ _ n2,j2],af _ _ _⟩,X7,by dsimp only; omega,by dsimp only; omega,by rw [ou]; exact qW⟩
       dsimp only at fR
       rw [e11] at fR
       exact fR _ (ak (by simp [go_sem,iI]))
      ·have ht:iP (kM L most want) o k = o:=by unfold iP kM; rw [vC,decide_eq_false hq]; rfl
       rw [ht] at qW
       simp [go_sem,nG,j11,af,an,hq,ja]
       have fR:=fun s=>hN s (o,aB jt b11 (some (.row 25 3 [.agg [.sl 4 (L.map bG),.int .i64 most,.sl 8 ((bK o k).map ey)]]))) ⟨⟨(an _ _ _).2 nG,EP.aJ Dm _,by dsimp only; rw [ae _ _ n2,j2],by dsimp only; rw [ae _ _ n6,j6]⟩,hoo,hoL,by dsimp only; omega,by rw [ou]; exact qW⟩
       dsimp only at fR
       rw [e11] at fR
       exact fR _ (ak (by simp [go_sem,iI]))
    ·obtain ⟨o,bx2⟩:=q
     obtain ⟨⟨cm,cQ,jI,wB⟩,hoo,hoL,ly,y4⟩:=hJ
     dsimp only at cm cQ jI wB hoo hoL ly y4 ⊢
     rw [Nat.sub_self] at y4
     have y4:o = P:=y4
     subst y4
     have tg:¬ ((N0:Int) <= (N0:Int) - 1):=by omega
     simp [go_sem,Gl,cm,tg]
     have af6:=hPl
     by_cases he:o.length = out.length
     ·rw [if_pos he] at y3
      exact ⟨(out.length,fu',o,bx2),⟨⟨cm,cQ,jI,wB⟩,⟨X6,by dsimp only; omega,by dsimp only; omega⟩,.inl ⟨he.symm,y3⟩⟩,ak (by simp [go_sem,iI]),by dsimp only; rw [if_pos he.symm,if_neg vd]; omega⟩
     ·rw [if_neg he] at y3
      exact ⟨(out.length,fu',o,bx2),⟨⟨cm,cQ,jI,wB⟩,⟨X6,by dsimp only; omega,by dsimp only; omega⟩,.inr ⟨fun h=>he h.symm,by dsimp only; omega,y3⟩⟩,ak (by simp [go_sem,iI]),by dsimp only; rw [if_neg (fun h=>he h.symm),if_neg vd]; omega⟩
structure LF where
 c:Int
 b:Int
 l:Int
 o:Int
 g:Int
 s:Int
 r:Int
deriving DecidableEq
def Ky (c:LF):V:=.agg [iI c.c,iI c.b,iI c.l,iI c.o,iI c.g,iI c.s,iI c.r]
def aeg (c:IC):LF:=⟨c.num,c.bk,c.bt,c.born,c.gone,c.cj,c.read⟩
def y5 (L:List eR) (most:Int) (l:List Ex):List LF × Int:=((pn L most l).1.map aeg,(pn L most l).2)
theorem Kz (L:List eR) (most:Int) (l:List Ex) (hL:L.length <= 1000000) (hl:l.length <= 4000000000000000000) (bB:∀ e,e ∈ l -> NE e) (bx:aa):ay prog 18 [ck L most l] bx (.dc [.sl 7 ((y5 L most l).1.map Ky),iI (y5 L most l).2]):=by
 refine ay.wk ((Kw L most l hL hl bB bx).mono ?_)
 rintro r bx' ⟨rfl,v,hv,rfl⟩
 refine ⟨pX ?_ (Wk.refl _),rfl⟩
 unfold y5
 rw [List.map_map]
 exact hv.wk
def HF (L:List eR) (l:List Ex) (n:Int):Bool:=decide ((20:Int) < (L.length:Int)) || (decide (n < (l.length:Int)) && decide ((l.length:Int) <= 2000)) || decide ((2010:Int) < (l.length:Int))
theorem X8 (L:List eR) (most:Int) (l:List Ex) (n:Int) (bx:aa):ay prog 11 [ck L most l,.int .i64 n] bx (.bool (HF L l n)):=by
 refine Vy fun hf=>?_
 simp [go_sem,C11,hf,ck,iI]
 refine ⟨fun h1=>⟨h1,fun h2=>⟨h1,h2⟩⟩,fun h1 h2=>⟨h1,?_⟩,?_⟩
 ·by_cases h3:n < (l.length:Int)
  ·exact .inr (h2 h3)
  ·exact .inl (by omega)
 ·exact aA (by simp [go_sem]) ⟨by simp [go_sem,HF],rfl⟩
theorem K0 (a b:List LF) (ha:a.length <= 1000000) (bx:aa):ay prog 20 [.sl 7 (a.map Ky),.sl 7 (b.map Ky)] bx (.bool (decide (a = b))):=by
 refine V6 fun hf=>?_
 by_cases he:a.length = b.length
 rotate_left
 ·have nS:¬ (a.length:Int) = b.length:=by omega
  have hz:decide (a = b) = false:=by simp; rintro rfl; exact he rfl
  simp [go_sem,C20,hf,nS,he]
  exact aA (by simp [go_sem]) ⟨by simp [go_sem,hz],rfl⟩
 ·have nS:(a.length:Int) = b.length:=by omega
  simp [go_sem,C20,hf,nS,he]
  refine eG a.length (fun i=>a.getD i ⟨0,0,0,0,0,0,0⟩ != b.getD i ⟨0,0,0,0,0,0,0⟩) (fun i=>⟨26,bR [(0,.sl 7 (a.map Ky)),(1,.sl 7 (b.map Ky)),(5,.int .i64 i)],bx⟩) (ak (by simp [go_sem])) (fun i hi hJ N hN=>?_) (fun hJ N=>?_)
  ·have HG:i < b.length:=by omega
   have hw:=bj (k:=i) (by omega)
   have g1:a.getD i ⟨0,0,0,0,0,0,0⟩ = a[i]:=by simp [hi]
   have g2:b.getD i ⟨0,0,0,0,0,0,0⟩ = b[i]:=by simp [HG]
   rw [g1,g2] at hN
   by_cases e:a[i] = b[i]
   ·simp [go_sem,Cz,hf,hi,HG,hw,iI,e,Ky]
    exact hN _ (by simp [e]) (ak (by simp [go_sem]))
   ·have hz:decide (a = b) = false:=by simp; rintro rfl; exact e rfl
    have e2:¬ (a[i].c = b[i].c /\ a[i].b = b[i].b /\ a[i].l = b[i].l /\ a[i].o = b[i].o /\ a[i].g = b[i].g /\ a[i].s = b[i].s /\ a[i].r = b[i].r):=by
     rintro ⟨h1,h2,h3,h4,h5,h6,h7⟩
     apply e
     cases ha:a[i]
     cases hb:b[i]
     rw [ha,hb] at h1 h2 h3 h4 h5 h6 h7
     simp_all
    simp [go_sem,Cz,hf,hi,HG,hw,iI,Ky]
    refine ⟨fun _=>aA (by simp [go_sem]) ⟨by simp [go_sem,hz],rfl⟩,fun h1 h2 h3 h4 h5 h6 h7=>absurd ⟨h1,h2,h3,h4,h5,h6,h7⟩ e2⟩
  ·have hz:a = b:=by
    apply List.ext_getElem he
    intro i h1 h2
    have:=hJ i h1
    simpa [h1,h2] using this
   simp [go_sem,Cz,hf]
   exact aA (by simp [go_sem]) ⟨by simp [go_sem,hz],rfl⟩
theorem EC (bx:aa):ay prog 31 [] bx (ck yG 1 BM):=by
 refine ay.wk ?_
 refine VA fun hf=>?_
 simp [go_sem,C31,hf]
 intro b0 h0 b1 h1 b2 h2
 have n01:b0 ≠ b1:=by rintro rfl; simp [af] at h1
 have n12:b1 ≠ b2:=by rintro rfl; simp [af] at h2
 have n02:b0 ≠ b2:=by rintro rfl; simp [af,ae _ _ n01] at h2
 have qu:bx b1 = none:=by rwa [ae _ _ n01.symm] at h1
 have LS:bx b2 = none:=by rwa [ae _ _ n12.symm,ae _ _ n02.symm] at h2
 simp [go_sem,af,ae _ _ n01,ae _ _ n02]
 refine fw 3 (by simp [go_sem,af]) ((((((Ext.refl bx).aJ h0 _).aJ qu _).aJ LS _).aJ h0 _)) ?_
 refine ⟨?_,rfl⟩
 simp [go_sem,af,cK,ae _ _ n01.symm,ae _ _ n02.symm,ae _ _ n12,qu,LS,ck,yG,BM,lN,bG,ey,dQ,iI]
 exact Wk.refl _
theorem PG (a b:List (Int × Int)) (ha:a.length <= 1000000) (bx:aa):ay prog 17 [.sl 2 (a.map bH),.sl 2 (b.map bH)] bx (.bool (decide (a = b))):=by
 refine V4 fun hf=>?_
 by_cases he:a.length = b.length
 rotate_left
 ·have nS:¬ (a.length:Int) = b.length:=by omega
  have hz:decide (a = b) = false:=by simp; rintro rfl; exact he rfl
  simp [go_sem,C17,hf,nS,he]
  exact aA (by simp [go_sem]) ⟨by simp [go_sem,hz],rfl⟩
 ·have nS:(a.length:Int) = b.length:=by omega
  simp [go_sem,C17,hf,nS,he]
  refine eG a.length (fun i=>a.getD i (0,0) != b.getD i (0,0)) (fun i=>⟨26,bR [(0,.sl 2 (a.map bH)),(1,.sl 2 (b.map bH)),(5,.int .i64 i)],bx⟩) (ak (by simp [go_sem])) (fun i hi hJ N hN=>?_) (fun hJ N=>?_)
  ·have HG:i < b.length:=by omega
   have hw:=bj (k:=i) (by omega)
   have g1:a.getD i (0,0) = a[i]:=by simp [hi]
   have g2:b.getD i (0,0) = b[i]:=by simp [HG]
   rw [g1,g2] at hN
   by_cases e:a[i] = b[i]
   ·simp [go_sem,Cx,hf,hi,HG,hw,iI,e,bH]
    exact hN _ (by simp [e]) (ak (by simp [go_sem]))
   ·have hz:decide (a = b) = false:=by simp; rintro rfl; exact e rfl
    have e2:¬ (a[i].1 = b[i].1 /\ a[i].2 = b[i].2):=fun h=>e (Prod.ext h.1 h.2)
    simp [go_sem,Cx,hf,hi,HG,hw,iI,bH]
    refine ⟨fun _=>aA (by simp [go_sem]) ⟨by simp [go_sem,hz],rfl⟩,fun h1 h2=>absurd ⟨h1,h2⟩ e2⟩
  ·have hz:a = b:=by
    apply List.ext_getElem he
    intro i h1 h2
    have:=hJ i h1
    simpa [h1,h2] using this
   simp [go_sem,Cx,hf]
   exact aA (by simp [go_sem]) ⟨by simp [go_sem,hz],rfl⟩
def NR (e:Ex):Prop:=-9223372036854775808 <= e.ev.n /\ e.ev.n <= 9223372036854775807
theorem K3 (m:eR) (bx:aa):ay prog 88 [bG m] bx (.bool (!ik m)):=by
 refine Wp fun hf=>?_
 have hz:(decide (1 <= m.max) && decide (m.max <= 64) && decide (0 <= m.queue) && decide (m.queue <= 64) && decide (1 <= m.idle) && decide (m.idle <= 1000000000000) && decide (1 <= m.xU) && decide (m.xU <= 1000000000000)) = !ik m:=by
  unfold ik B7
  rw [Bool.eq_iff_iff]
  simp
  omega
 simp [go_sem,C88,hf,bG,iI]
 rw [hz]
 exact aA (by simp [go_sem]) ⟨by simp [go_sem],rfl⟩
theorem HH {bx:aa} (hf:ba bx) (L:List eR) (most:Int) (l:List Ex) (hL:L.length <= 1000) {b p:Nat} (h1:bx b = none) (h2:bx p = none) (d:p ≠ b) :
 WR bx ⟨p,b,.aH,.aH,.aH,fun _=>.aH,fun _=>.aH⟩ (iy L most l) (aB (aB bx b (some (.row 209 5 (List.replicate L.length (eQ (fun _=>.aH) (fun _=>.aH) 0 gD))))) p (some (.row 103 10 [.agg [.sl 4 (L.map bG),iI most,.sl 8 (l.map ey),iI 0,.own b 5 0 L.length,.aH,.aH,.bool false,iI 0,.aH]]))):=by
 have hn:∀ bb:aa,kg bb .aH:=fun bb b sz o m e=>by cases e
 have hlen:(iy L most l).ai.length = L.length:=by simp [iy]
 have dH:∀ (i:Nat) x,(iy L most l).ai[i]? = some x -> x = gD:=fun i x hx=>by
  have:=List.mem_of_getElem? hx
  exact (List.mem_replicate.1 this).2
 refine ⟨(an _ _ _).2 ((an _ _ _).2 hf),((Ext.refl bx).aJ h1 _).aJ h2 _,h2,h1,hn _,hn _,hn _,fun _ _=>hn _,fun _ _=>hn _,?_,?_,.inl ⟨rfl,rfl⟩,.inl ⟨rfl,rfl⟩,.inl ⟨rfl,rfl⟩,fun i x hx=>.inl ⟨by rw [dH i x hx]; rfl,rfl⟩,fun i x hx=>.inl ⟨by rw [dH i x hx]; rfl,rfl⟩,fun i j b s o m s' o' m' _ _ e=>(by cases e),fun i j b s o m s' o' m' _ _ e=>(by cases e),fun i j b s o m s' o' m' _ _ e=>(by cases e),⟨by rw [hlen]; exact hL,by simp [iy],by simp [iy],by simp [iy],fun x hx=>?_⟩⟩
 ·dsimp only
  rw [af]
  unfold gP
  rw [hlen]
  rfl
 ·dsimp only
  rw [ae _ _ d.symm,af]
  congr 2
  apply List.ext_getElem?
  intro i
  rw [List.getElem?_mapIdx]
  unfold iy
  dsimp only
  rw [List.getElem?_replicate,List.getElem?_replicate]
  split <;> rfl
 ·rw [(List.mem_replicate.1 hx).2]; simp [gD]
theorem K4 (L:List eR) (most:Int) (l:List Ex) (hL:L.length <= 1000) (bx:aa):aw prog 39 [ck L most l] bx fun r bx'=>∃ n,r = .ptr n.p 10 0 0 /\ WR bx n (iy L most l) bx':=by
 obtain ⟨Kc,eZ⟩:∃ Kc:V -> aa -> Prop,Kc = fun r bx'=>∃ n,r = .ptr n.p 10 0 0 /\ WR bx n (iy L most l) bx':=⟨_,rfl⟩
 rw [<- eZ]
 refine VJ fun hf=>?_
 simp [go_sem,C39,hf,ck]
 simp [go_sem,Nf,hf]
 refine ⟨by omega,by omega,?_⟩
 intro b h1 p h2
 obtain ⟨d,h2⟩:=eN h2
 refine al (by simp [go_sem]) ?_
 rw [eZ]
 refine ⟨⟨p,b,.aH,.aH,.aH,fun _=>.aH,fun _=>.aH⟩,by simp [go_sem],?_⟩
 exact HH hf L most l hL h1 h2 d
theorem X9 (L:List eR) (hL:L.length <= 1000000) (bx:aa):aw prog 36 [.sl 4 (L.map bG)] bx fun r bx'=>bx' = bx /\ ∃ w,(w = .aH \/ ∃ es,w = .sl 11 es) /\ r = .dc [eE w,iI (jG L)]:=by
 obtain ⟨Kc,eZ⟩:∃ Kc:V -> aa -> Prop,Kc = fun r bx'=>bx' = bx /\ ∃ w,(w = .aH \/ ∃ es,w = .sl 11 es) /\ r = .dc [eE w,iI (jG L)]:=⟨_,rfl⟩
 rw [<- eZ]
 refine VG fun hf=>?_
 have jN:∀ (e:Int),jG L = e -> Kc (.dc [eE .aH,.int .i64 e]) bx:=fun e he=>by rw [eZ]; exact ⟨rfl,.aH,.inl rfl,by rw [he]; rfl⟩
 simp [go_sem,C36,hf]
 intro b2 h2
 have cQ:∀ y z,Ext bx (aB (aB bx b2 (some y)) b2 (some z)):=fun y z=>((Ext.refl bx).aJ h2 (some y)).aJ h2 (some z)
 refine ⟨fun c1=>?_,fun c1 c2=>?_⟩
 ·have hz:jG L = 3:=by
   unfold jG
   rw [if_pos (by omega)]
  refine fw 3 (by simp [go_sem,af]) ((Ext.refl bx).aJ h2 _) ?_
  simp [go_sem,af,cK]
  exact jN 3 hz
 intro b4 h4
 obtain ⟨n42,h40⟩:=eN h4
 have jj:¬ (L.length = 0 \/ 16 < L.length):=by omega
 refine iM (ι:=V × aa) L.length (fun k p=>(∀ x,x ∈ L.take k -> ik x = false) /\ ba p.2 /\ Ext bx p.2 /\ p.2 b2 = some (.row 57 3 [eE .aH]) /\ p.2 b4 = some (.row 57 3 [eE p.1]) /\ aY p.2 154 11 ((L.take k).map ji) p.1 /\ kg bx p.1) (fun k p=>⟨39,bR [(0,.sl 4 (L.map bG)),(2,.ptr b2 3 0 0),(4,.ptr b4 3 0 0),(5,.int .i64 k)],p.2⟩) (.aH,aB (aB bx b2 (some (.row 57 3 [eE .aH]))) b4 (some (.row 57 3 [eE .aH]))) ⟨fun x hx=>by simp at hx,(an _ _ _).2 ((an _ _ _).2 hf),((Ext.refl bx).aJ h2 _).aJ h40 _,by dsimp only; rw [ae _ _ n42.symm,af],af _ _ _,.inl ⟨by simp,rfl⟩,fun b sz o m e=>by cases e⟩ (ak (by simp [go_sem,eE,iI])) (fun k p hk hJ N hN=>?_) (fun p hJ N=>?_)
 ·obtain ⟨v,bP⟩:=p
  obtain ⟨c8,bg,iH,cz,yq,ho,hn⟩:=hJ
  dsimp only at c8 bg iH cz yq ho hn ⊢
  have hw:=bj (k:=k) (by omega)
  simp [go_sem,Gs,hk,bg]
  refine ⟨Nat.le_refl 4,ah (K3 L[k] bP) ?_⟩
  cases wc:ik L[k]
  rotate_left
  ·have hz:jG L = 7:=by
    unfold jG
    rw [if_neg jj,if_pos (List.any_eq_true.2 ⟨_,List.getElem_mem hk,wc⟩)]
   simp [go_sem,bg,cz,eE,iI]
   refine fw 3 (by simp [go_sem,af]) (iH.aJ h2 _) ?_
   simp [go_sem,af,cK]
   exact jN 7 hz
  simp [go_sem,hk,bg,yq,eE,bG,iI,ho.strip,ho.live,ho.okV,ho.cells]
  refine dx (.agg #[.int .i64 0,.int .i64 0,.int .i64 0,.int .i64 0,.slice none 0 0,.slice none 0 0,.slice none 0 0,.slice none 0 0,.bool false,.int .i64 0,.int .i64 0]) ho bg (news:=[ji L[k]]) L1 Gh (by simp [go_sem,bM,ji,iI]) zC (by simp [go_sem]) (by decide) (by simp [Gi]; omega) (by simp; omega) (by simp [go_sem]) fun v' bx' ha hm _=>?_
  obtain ⟨e1,e2⟩:=hm.base iH hn
  have Pd:∀ sz o m,v ≠ .own b4 sz o m:=ho.ne yq (by decide)
  have Bh:∀ sz o m,v ≠ .own b2 sz o m:=ho.ne cz (by decide)
  have Hn:bx' b4 = _:=(hm.other (by rw [yq]; simp) Pd).trans yq
  have uU:bx' b2 = _:=(hm.other (by rw [cz]; simp) Bh).trans cz
  have fI:aY bx' 154 11 ((L.take (k + 1)).map ji) v':=by
   rw [List.take_succ_eq_append_getElem hk,List.map_append]; exact ha
  simp [go_sem,Hn,uU,hm.fin,ha.strip,ha.live,ha.cells,ha.okV,eE,iI,hw]
  refine hN _ (v',aB bx' b4 (some (.row 57 3 [eE v']))) ⟨fun x hx=>?_,(an _ _ _).2 hm.fin,e1.aJ h40 _,by dsimp only; rw [ae _ _ n42.symm,uU],af _ _ _,fI.put Hn (by decide) _,e2⟩ (ak (by simp [go_sem,eE,iI]))
  rw [List.take_succ_eq_append_getElem hk] at hx
  rcases List.mem_append.1 hx with hx | hx
  ·exact c8 x hx
  ·rw [List.mem_singleton.1 hx]; exact wc
 ·obtain ⟨v,bP⟩:=p
  obtain ⟨c8,bg,iH,cz,yq,ho,hn⟩:=hJ
  dsimp only at c8 bg iH cz yq ho hn ⊢
  rw [List.take_of_length_le (Nat.le_refl _)] at ho c8
  have hz:jG L = 0:=by
   unfold jG
   rw [if_neg jj,if_neg]
   intro h
   obtain ⟨x,hx,h⟩:=List.any_eq_true.1 h
   rw [c8 x hx] at h
   cases h
  simp [go_sem,Gs,bg,cz,yq,eE,iI,ho.strip,ho.live,ho.okV,ho.cells]
  refine fw 3 (by simp [go_sem,af]) (iH.aJ h2 _) ?_
  have sb:∃ w,(w = .aH \/ ∃ es,w = .sl 11 es) /\ cK (aB bP b2 (some (bF.row 57 3 [V.agg [V.int .i64 0,V.bool false,v]]))) bx 1 v = w:=by
   rcases ho with ⟨_,rfl⟩ | ⟨b,rfl,hb⟩
   ·exact ⟨.aH,.inl rfl,rfl⟩
   ·refine ⟨_,.inr ⟨_,rfl⟩,fe (bx:=aB bP b2 _) (by rw [ae _ _ (by rintro rfl; rw [cz] at hb; cases hb)]; exact hb) (hn _ _ _ _ rfl) (by decide) rfl⟩
  obtain ⟨w,ja,jI⟩:=sb
  have e3:cK (aB bP b2 (some (bF.row 57 3 [V.agg [V.int IntKind.i64 0,V.bool false,v]]))) bx 3 (.dc [.agg [.int .i64 0,.bool false,v],.int .i64 0]) = .dc [eE w,.int .i64 0]:=by
   simp only [cK,List.map_cons,List.map_nil,jI,eE,iI]
  have e4:kG prog ⟨39,bR [(2,V.ptr b2 3 0 0),(3,V.int .i64 0)],aB bP b2 (some (bF.row 57 3 [V.agg [V.int IntKind.i64 0,V.bool false,v]]))⟩ [.cell 2 57,.tmp 3] = .dc [.agg [.int .i64 0,.bool false,v],.int .i64 0]:=by simp [go_sem,af]
  rw [e4,e3,eZ,hz]
  exact ⟨rfl,w,ja,rfl⟩
def okF (c b k o:Bool) (lo hi:Int) (e:Ex) (nb:Int):Bool :=
 decide (0 <= e.ev.t) && decide (e.ev.t <= 1000000000000) && (!c || decide (1 <= e.ev.call)) && (!b || (decide (0 <= e.b) && decide (e.b < nb))) && (!k || decide (1 <= e.ev.conn)) && (!o || decide (1 <= e.ev.kf)) && decide (lo <= e.ev.n) && decide (e.ev.n <= hi)
theorem K5 {c b k o:Bool} {lo hi nb:Int} {e:Ex} {bx:aa} (hf:ba bx) {Kc:V -> aa -> Prop} (hK:Kc (.bool (okF c b k o lo hi e nb)) bx) {st:St} (iB:jq st ⟨104,bR [(1,.int .i64 nb),(2,.ep (ey e) 0),(5,.bool c),(6,.bool b),(7,.bool k),(8,.bool o),(9,.int .i64 lo),(10,.int .i64 hi)],bx⟩):pw prog xD (fV prog [Go.ResultVar.tmp 4] Kc) st:=by
 refine j0 iB ?_
 simp [go_sem,hf,ey,dQ,iI]
 refine ⟨?_,?_,?_,?_,?_,al (by simp [go_sem]) (by simpa [go_sem,okF] using hK)⟩
 ·grind
 ·grind
 ·grind
 ·grind
 ·grind
theorem K6 {e:Ex} {nb:Nat} {n:Nat} (hn:e.ev.kind = n) (h1:1 <= n) (h2:n < 20) (hr:NR e) (c b k o:Bool) (lo hi:Int) (sk:(nd n).call = c /\ (nd n).bk = b /\ (nd n).conn = k /\ (nd n).kf = o) (hh:(0 < (nd n).high /\ (nd n).low = lo /\ (nd n).high = hi) \/ ((nd n).high <= 0 /\ lo = -9223372036854775808 /\ hi = 9223372036854775807)):okF c b k o lo hi e nb = !dY nb e:=by
 obtain ⟨q1,q2,q3,q4⟩:=sk
 obtain ⟨r1,r2⟩:=hr
 have e0:dY nb e = yp (nd n) e.ev e.b nb:=by
  unfold dY
  rw [hn,decide_eq_false (by omega),decide_eq_false (by omega)]
  rfl
 rw [e0]
 unfold yp okF
 rw [q1,q2,q3,q4]
 rcases hh with ⟨g1,g2,g3⟩ | ⟨g1,g2,g3⟩
 ·rw [g2,g3,decide_eq_true (show (0:Int) < hi by omega)]
  rw [Bool.eq_iff_iff]
  cases c <;> cases b <;> cases k <;> cases o <;> simp <;> omega
 ·rw [g2,g3]
  rw [decide_eq_false (show ¬ 0 < (nd n).high by omega)]
  rw [Bool.eq_iff_iff]
  cases c <;> cases b <;> cases k <;> cases o <;> simp <;> omega
theorem K7 (e:Ex) (nb:Nat) (hr:NR e) (bx:aa):ay prog 37 [ey e,.int .i64 nb] bx (.bool (!dY nb e)):=by
 show aw _ _ _ _ (fun r bx'=>r = .bool (!dY nb e) /\ bx' = bx)
 obtain ⟨Kc,eZ⟩:∃ Kc:V -> aa -> Prop,Kc = fun r bx'=>r = .bool (!dY nb e) /\ bx' = bx:=⟨_,rfl⟩
 rw [<- eZ]
 refine VH fun hf=>?_
 have hT:∀ (n:Nat),e.ev.kind = n -> 1 <= n -> n < 20 -> ∀ st,jq st ⟨104,bR [(1,.int .i64 nb),(2,.ep (ey e) 0),(5,.bool (nd n).call),(6,.bool (nd n).bk),(7,.bool (nd n).conn),(8,.bool (nd n).kf),(9,.int .i64 (if 0 < (nd n).high then (nd n).low else -9223372036854775808)),(10,.int .i64 (if 0 < (nd n).high then (nd n).high else 9223372036854775807))],bx⟩ -> pw prog xD (fV prog [Go.ResultVar.tmp 4] Kc) st:=fun n hn h1 h2 st iB=>K5 hf (by
  rw [K6 hn h1 h2 hr _ _ _ _ _ _ ⟨rfl,rfl,rfl,rfl⟩ ?_,eZ]
  ·exact ⟨rfl,rfl⟩
  ·by_cases hh:0 < (nd n).high
   ·rw [if_pos hh,if_pos hh]; exact .inl ⟨hh,rfl,rfl⟩
   ·rw [if_neg hh,if_neg hh]; exact .inr ⟨by omega,rfl,rfl⟩) iB
 have hev:ey e = .agg [.int .i64 e.ev.kind,.int .i64 e.b,.int .i64 e.ev.t,.int .i64 e.ev.call,.int .i64 e.ev.conn,.int .i64 e.ev.kf,.int .i64 e.ev.n,.bool e.ev.yes]:=rfl
 by_cases k0:e.ev.kind < 1 \/ 20 <= e.ev.kind
 ·have hb:dY nb e = true:=by
   unfold dY
   rcases k0 with h | h
   ·rw [decide_eq_true h]; rfl
   ·rw [decide_eq_true h]; simp
  have bB:∀ m:Int,1 <= m -> m <= 19 -> e.ev.kind ≠ m:=fun m h1 h2 h=>by omega
  simp [go_sem,C37,hf,hev,bB]
  refine al (by simp [go_sem]) ?_
  rw [eZ,hb]
  exact ⟨by simp [go_sem],rfl⟩
 obtain ⟨n,hn⟩:∃ n:Nat,e.ev.kind = n:=⟨e.ev.kind.toNat,by omega⟩
 have T:=hT n hn (by omega) (by omega)
 clear hT
 rw [hev] at T ⊢
 rw [hn] at T ⊢
 rcases (show n = 1 \/ n = 2 \/ n = 3 \/ n = 4 \/ n = 5 \/ n = 6 \/ n = 7 \/ n = 8 \/ n = 9 \/ n = 10 \/ n = 11 \/ n = 12 \/ n = 13 \/ n = 14 \/ n = 15 \/ n = 16 \/ n = 17 \/ n = 18 \/ n = 19 by omega) with rfl | rfl | rfl | rfl | rfl | rfl | rfl | rfl | rfl | rfl | rfl | rfl | rfl | rfl | rfl | rfl | rfl | rfl | rfl
 all_goals simp [go_sem,C37,hf]
 all_goals exact T _ (ak (by simp [go_sem,nd]))
theorem K8 (L:List eR) (most:Int) (l:List Ex) (hL:L.length <= 1000000) (hl:l.length <= 4000000000000000000) (A3:∀ e,e ∈ l -> NR e) (bx:aa):ay prog 14 [ck L most l] bx (.dc [iI (bu L most l).1,iI (bu L most l).2]):=by
 obtain ⟨Kc,eZ⟩:∃ Kc:V -> aa -> Prop,Kc = fun r bx'=>r = .dc [iI (bu L most l).1,iI (bu L most l).2] /\ bx' = bx:=⟨_,rfl⟩
 show aw _ _ _ _ (fun r bx'=>r = .dc [iI (bu L most l).1,iI (bu L most l).2] /\ bx' = bx)
 rw [<- eZ]
 refine V1 fun hf=>?_
 have en:∀ (i e:Int),bu L most l = (i,e) -> Kc (.dc [.int .i64 i,.int .i64 e]) bx:=fun i e he=>by rw [eZ,he]; exact ⟨rfl,rfl⟩
 obtain ⟨R,hR⟩:∃ R,bu L most l = R:=⟨_,rfl⟩
 rw [hR] at en
 unfold bu at hR
 simp [go_sem,C14,hf,ck]
 refine ar (X9 L hL bx) ?_
 rintro r bP ⟨eK,w,hw,rfl⟩
 rw [eK]
 have hwc:w.cells = [w] /\ okV w = true /\ w.strip = w /\ w.az = true:=by
  rcases hw with rfl | ⟨es,rfl⟩ <;> exact ⟨rfl,rfl,rfl,rfl⟩
 obtain ⟨w1,w2,w3,w4⟩:=hwc
 have hE:∀ (b:Nat) (x:bF),bx b = none -> Ext bx (aB bx b (some x)):=fun b x hb=>(Ext.refl bx).aJ hb _
 by_cases e1:jG L = 0
 rotate_left
 ·rw [if_pos e1] at hR
  simp [go_sem,hf,eE,w1,w2,w3,w4,iI,e1]
  intro b hb
  exact bp (by simp [go_sem]) (hE _ _ hb) (by simp [go_sem]; exact en _ _ hR.symm)
 rw [if_neg (by simpa using e1)] at hR
 by_cases c2:most < 0 \/ 20 < most
 ·rw [if_pos c2] at hR
  simp [go_sem,hf,eE,w1,w2,w3,w4,iI,e1,c2]
  intro b hb
  refine ⟨bp (by simp [go_sem]) (hE _ _ hb) (by simp [go_sem]; exact en _ _ hR.symm),fun h1 h2=>?_⟩
  omega
 rw [if_neg c2] at hR
 have c3:¬ most < 0:=fun h=>c2 (.inl h)
 have c4:most <= 20:=by have:¬ 20 < most:=fun h=>c2 (.inr h); omega
 by_cases c5:2000 < l.length
 ·rw [if_pos c5] at hR
  have c5':(2000:Int) < (l.length:Int):=by omega
  simp [go_sem,hf,eE,w1,w2,w3,w4,iI,e1,c3,c4,c5']
  intro b hb
  refine ⟨fun h=>by omega,bp (by simp [go_sem]) (hE _ _ hb) (by simp [go_sem]; exact en _ _ hR.symm)⟩
 rw [if_neg c5] at hR
 have c5':¬ (2000:Int) < (l.length:Int):=by omega
 simp [go_sem,hf,eE,w1,w2,w3,w4,iI,e1,c3,c4,c5']
 intro b hb
 refine ⟨fun h=>by omega,?_⟩
 have cQ:=hE b (.row 57 3 [.agg [.int .i64 0,.bool false,w]]) hb
 have cm:ba (aB bx b (some (.row 57 3 [.agg [.int .i64 0,.bool false,w]]))):=(an _ _ _).2 hf
 generalize aB bx b (some (bF.row 57 3 [V.agg [V.int .i64 0,V.bool false,w]])) = bx2 at *
 refine eG l.length (fun i=>dY L.length (l.getD i ex0)) (fun i=>⟨46,bR [(1,.ep (.agg [.sl 4 (L.map bG),.int .i64 most,.sl 8 (l.map ey)]) 0),(6,.int .i64 i)],bx2⟩) (ak (by simp [go_sem])) (fun i hi hJ N hN=>?_) (fun hJ N=>?_)
 ·have hg:l.getD i ex0 = l[i]:=by simp [hi]
  rw [hg] at hN
  have hw:=bj (k:=i) (by omega)
  have Ho:dY L.length l[i] = true -> R = ((i:Int),(2:Int)):=by
   intro A0
   rw [<- hR]
   have:l.findIdx? (dY L.length) = some i:=by
    rw [List.findIdx?_eq_some_iff_getElem]
    refine ⟨hi,A0,fun j hj=>?_⟩
    have h1:=hJ j hj
    have h2:j < l.length:=by omega
    simp [h2] at h1
    simp [h1]
   rw [this]
  have FL:=K7 l[i] L.length (A3 _ (List.getElem_mem hi)) bx2
  simp [go_sem,Gk,cm,hi,iI]
  refine ⟨Nat.le_refl 8,ah FL ?_⟩
  cases he:dY L.length l[i]
  ·simp [go_sem,cm,hw]
   exact hN _ he (ak (by simp [go_sem]))
  ·simp [go_sem,cm]
   exact bp (by simp [go_sem]) cQ (by simp [go_sem]; exact en _ _ (Ho he))
 ·have hz:R = (0,0):=by
   rw [<- hR]
   have:l.findIdx? (dY L.length) = none:=by
    rw [List.findIdx?_eq_none_iff]
    intro x hx
    obtain ⟨i,hi,rfl⟩:=List.getElem_of_mem hx
    have h1:=hJ i hi
    simpa [hi] using h1
   rw [this]
  simp [go_sem,Gk,cm]
  exact bp (by simp [go_sem]) cQ (by simp [go_sem]; exact en _ _ hz)
theorem PH {L:List eR} {most:Int} {l:List Ex} (h:(bu L most l).2 = 0) (bB:∀ e,e ∈ l -> NE e):∀ e,e ∈ l -> VE L.length e:=fun e he=>uz ((im h).2.2.2.2.2.2 e he) (bB e he)
theorem K9 (L:List eR) (most:Int) (l:List Ex) (hL:L.length <= 1000000) (hl:l.length <= 4000000000000000000) (bB:∀ e,e ∈ l -> NE e) (A3:∀ e,e ∈ l -> NR e) (bx:aa):aw prog 16 [ck L most l] bx fun r bx'=>bx' = bx /\ ∃ v,BF 2 ((ga L most l).1.map bH) v /\ r = .dc [v,iI (ga L most l).2]:=by
 obtain ⟨Kc,eZ⟩:∃ Kc:V -> aa -> Prop,Kc = fun r bx'=>bx' = bx /\ ∃ v,BF 2 ((ga L most l).1.map bH) v /\ r = .dc [v,iI (ga L most l).2]:=⟨_,rfl⟩
 rw [<- eZ]
 refine V3 fun hf=>?_
 have hc:=K8 L most l hL hl A3 bx
 unfold ga at eZ
 have nJ:=im (L:=L) (most:=most) (l:=l)
 have GH:(bu L most l).2 = 0 -> (runN (iy L most l) l l.length).aI = (eF (fp L most l) l l.length).aI:=fun h=>(EA h bB).aI.symm
 have ES:=fun h=>PH (L:=L) (most:=most) (l:=l) h bB
 obtain ⟨c,LL⟩:∃ c,bu L most l = c:=⟨_,rfl⟩
 rw [LL] at hc eZ nJ GH ES
 obtain ⟨lv,LM⟩:∃ lv,ck L most l = lv:=⟨_,rfl⟩
 have hb:=fun h=>K4 L most l h bx
 have sj:lv.strip = lv /\ lv.az = true /\ okV lv = true /\ lv.cells.length = 3 /\ V.agg (List.take 3 lv.cells) = lv:=by rw [<- LM]; exact ⟨rfl,rfl,rfl,rfl,rfl⟩
 obtain ⟨v1,v2,v3,v4,v5⟩:=sj
 rw [LM] at hc hb ⊢
 simp [go_sem,C16,hf,v1,v2,v3,v4,v5]
 refine ah hc ?_
 by_cases e0:c.2 = 0
 rotate_left
 ·rw [if_neg e0] at eZ
  simp [go_sem,hf,iI,e0]
  refine aA (by simp [go_sem]) ?_
  rw [eZ]
  exact ⟨rfl,.aH,.inr ⟨rfl,rfl⟩,by simp [go_sem,iI]⟩
 rw [if_pos e0,<- GH e0] at eZ
 obtain ⟨q1,q2,q3,q4,q5,q6,q7⟩:=nJ e0
 simp [go_sem,hf,v1,v2,v3,v4,v5,iI,e0]
 refine ar (hb (by omega)) ?_
 rintro r bP ⟨n,rfl,hw⟩
 simp [go_sem,hw.fin]
 refine ar (Xr hw (w8 L most l) (ES e0) q6) ?_
 rintro r bx2 ⟨rfl,n2,OS,jI⟩
 rw [<- OS]
 generalize runN (iy L most l) l l.length = w at jI eZ
 have au:=jI.row
 unfold gP at au
 have ho:=jI.aI
 simp [go_sem,jI.fin,au,ho.strip,ho.live]
 refine fw 2 (by simp [go_sem,ho.strip,ho.live]) jI.ext ?_
 have e4:cK bx2 bx 2 (kG prog ⟨23,bR [(2,n2.fv),(3,.int .i64 0)],bx2⟩ [.tmp 2,.tmp 3]) = .dc [cK bx2 bx 1 n2.fv,.int .i64 0]:=by simp [go_sem,cK,ho.strip]
 rw [e4,eZ]
 refine ⟨rfl,_,?_,rfl⟩
 have hnf:=jI.nf
 rcases ho with ⟨h0,h1⟩ | ⟨b3,h1,nU⟩
 ·rw [h1]; exact .inr ⟨h0,rfl⟩
 ·rw [h1] at hnf ⊢
  exact .inl (fe nU (hnf _ _ _ _ rfl) (by decide) rfl)
theorem HI (L:List eR) (most:Int) (l:List Ex) (hL:L.length <= 1000000) (hl:l.length <= 4000000000000000000) (bB:∀ e,e ∈ l -> NE e) (A3:∀ e,e ∈ l -> NR e) (bx:aa):ay prog 16 [ck L most l] bx (.dc [.sl 2 ((ga L most l).1.map bH),iI (ga L most l).2]):=by
 refine ay.wk ((K9 L most l hL hl bB A3 bx).mono ?_)
 rintro r bx' ⟨rfl,v,hv,rfl⟩
 exact ⟨pX hv.wk (Wk.refl _),rfl⟩
end Go.Proofs
namespace Go.Pl
open Go
end Go.Pl
namespace Go.Proofs
open Go Go.Pl Tryz
theorem PI (L:List eR) (most:Int) (l:List Ex) (k:Nat) (hk:k < l.length) (hl:l.length <= 100000) (bx:aa):ay prog 47 [ck L most l,.int .i64 k] bx (ck L most (bK l k)):=by
 refine ay.wk ?_
 refine VP fun hf=>?_
 simp [go_sem,C47,hf,ck]
 intro b0 h0 b1 h1 b2 h2
 have n01:b0 ≠ b1:=by rintro rfl; simp [af] at h1
 have n12:b1 ≠ b2:=by rintro rfl; simp [af] at h2
 have n02:b0 ≠ b2:=by rintro rfl; simp [af,ae _ _ n01] at h2
 have qu:bx b1 = none:=by rwa [ae _ _ n01.symm] at h1
 have LS:bx b2 = none:=by rwa [ae _ _ n12.symm,ae _ _ n02.symm] at h2
 simp [go_sem,af,ae _ _ n01,ae _ _ n02]
 obtain ⟨bx3,jA⟩:∃ bx3,aB (aB (aB bx b0 (some (bF.row 25 3 [V.agg [V.sl 4 (L.map bG),iI most,V.sl 8 (l.map ey)]]))) b1 (some (bF.row 25 3 [V.agg [V.aH,V.int .i64 0,V.aH]]))) b2 (some (bF.row 69 8 [])) = bx3:=⟨_,rfl⟩
 have ho:aY bx3 69 8 [] (.own b2 8 0 0):=.inr ⟨b2,rfl,by rw [<- jA,af]⟩
 have hn:kg bx (.own b2 8 0 0):=fun b sz o m e=>by injection e with e; rw [<- e]; exact LS
 have lU:ba bx3:=by rw [<- jA]; exact (an _ _ _).2 ((an _ _ _).2 ((an _ _ _).2 hf))
 have sN:Ext bx bx3:=by rw [<- jA]; exact (((Ext.refl bx).aJ h0 _).aJ qu _).aJ LS _
 have r0:bx3 b0 = some (bF.row 25 3 [V.agg [V.sl 4 (L.map bG),iI most,V.sl 8 (l.map ey)]]):=by rw [<- jA,ae _ _ n02,ae _ _ n01,af]
 have r1:bx3 b1 = some (bF.row 25 3 [V.agg [V.aH,V.int .i64 0,V.aH]]):=by rw [<- jA,ae _ _ n12,af]
 rw [jA]
 clear jA h1 h2
 refine ⟨by omega,?_⟩
 refine dx (.agg #[.int .i64 0,.int .i64 0,.int .i64 0,.int .i64 0,.int .i64 0,.int .i64 0,.int .i64 0,.bool false]) ho lU (news:=(l.map ey).take k) r9 qa (by simp [bM]) lD (by simp [go_sem]) (by decide) (by simp [tS]; omega) (by simp; omega) (by simp [go_sem]) fun v4 bx4 ha4 hm4 _=>?_
 obtain ⟨x4,n4⟩:=hm4.base sN hn
 have s0:=(hm4.other (by rw [r0]; simp) (fun sz o m e=>by injection e with e; exact n02 e.symm)).trans r0
 have s1:=(hm4.other (by rw [r1]; simp) (fun sz o m e=>by injection e with e; exact n12 e.symm)).trans r1
 have lI:=hm4.fin
 clear ho hn hm4 r0 r1 lU sN
 rw [List.nil_append] at ha4
 have hw:=bj (k:=k) (by omega)
 have L7:(l.map ey).take l.length = l.map ey:=List.take_of_length_le (by simp)
 simp [go_sem,lI,ha4.strip,ha4.live,ha4.cells,ha4.okV,s0,hw,L7]
 have hed:(l.map ey).take k ++ (l.map ey).drop (k + 1) = (bK l k).map ey:=by unfold bK; rw [List.map_append,List.map_take,List.map_drop]
 have hdl:=jX hk
 refine ⟨by omega,?_⟩
 have nv0:=ha4.ne s0 (by decide)
 have nv1:=ha4.ne s1 (by decide)
 refine dx (.agg #[.int .i64 0,.int .i64 0,.int .i64 0,.int .i64 0,.int .i64 0,.int .i64 0,.int .i64 0,.bool false]) ha4 lI (news:=(l.map ey).drop (k + 1)) r9 qa (by simp [bM]) lD (by simp [go_sem]) (by decide) (by simp [tS]; omega) (by simp; omega) (by simp [go_sem]) fun v5 jt uO hm5 _=>?_
 rw [hed] at uO
 obtain ⟨x5,n5⟩:=hm5.base x4 n4
 have u0:=(hm5.other (by rw [s0]; simp) nv0).trans s0
 have u1:=(hm5.other (by rw [s1]; simp) nv1).trans s1
 have nG:=hm5.fin
 simp [go_sem,nG,uO.strip,uO.live,uO.cells,uO.okV,u0,u1,af,ae _ _ n01.symm,an]
 have Iw:=(uO.put u0 (by decide) (some (bF.row 25 3 [V.agg [V.sl 4 (L.map bG),iI most,v5]])))
 have ha7:=(Iw.put (p:=b1) (by rw [ae _ _ n01.symm]; exact u1) (by decide) (some (bF.row 25 3 [V.agg [V.sl 4 (L.map bG),iI most,v5]])))
 refine fw 2 (by simp [go_sem,af,uO.live,uO.okV]) ((x5.aJ h0 _).aJ qu _) ?_
 refine ⟨?_,rfl⟩
 have e5:∀ bb:aa,aY bb 69 8 ((bK l k).map ey) v5 -> Wk (cK bb bx 1 v5) (.sl 8 ((bK l k).map ey)):=fun bb hb=>by
  rcases hb with ⟨h0,rfl⟩ | ⟨b3,rfl,nU⟩
  ·rw [h0]; exact pW 8
  ·rw [fe nU (n5 _ _ _ _ rfl) (by decide) rfl]; exact Wk.refl _
 have e6:=e5 _ ha7
 simp [go_sem,af,cK,uO.strip]
 refine Cr rfl fun i c d hc hd=>?_
 rcases i with _ | _ | _ | i
 ·injection hc with hc; injection hd with hd; rw [<- hc,<- hd]; exact Wk.refl _
 ·injection hc with hc; injection hd with hd; rw [<- hc,<- hd]; exact Wk.refl _
 ·injection hc with hc; injection hd with hd; rw [<- hc,<- hd]; exact e6
 ·cases hc
theorem PJ (a b:List Int) (ha:a.length <= 1000000) (bx:aa):ay prog 48 [.sl 1 (a.map iI),.sl 1 (b.map iI)] bx (.bool (decide (a = b))):=by
 refine VQ fun hf=>?_
 by_cases he:a.length = b.length
 rotate_left
 ·have nS:¬ (a.length:Int) = b.length:=by omega
  have hz:decide (a = b) = false:=by simp; rintro rfl; exact he rfl
  simp [go_sem,C48,hf,nS,he]
  exact aA (by simp [go_sem]) ⟨by simp [go_sem,hz],rfl⟩
 ·have nS:(a.length:Int) = b.length:=by omega
  simp [go_sem,C48,hf,nS,he]
  refine eG a.length (fun i=>a.getD i 0 != b.getD i 0) (fun i=>⟨26,bR [(0,.sl 1 (a.map iI)),(1,.sl 1 (b.map iI)),(5,.int .i64 i)],bx⟩) (ak (by simp [go_sem])) (fun i hi hJ N hN=>?_) (fun hJ N=>?_)
  ·have HG:i < b.length:=by omega
   have hw:=bj (k:=i) (by omega)
   have g1:a.getD i 0 = a[i]:=by simp [hi]
   have g2:b.getD i 0 = b[i]:=by simp [HG]
   rw [g1,g2] at hN
   by_cases e:a[i] = b[i]
   ·simp [go_sem,C4,hf,hi,HG,hw,iI,e]
    exact hN _ (by simp [e]) (ak (by simp [go_sem]))
   ·have hz:decide (a = b) = false:=by simp; rintro rfl; exact e rfl
    simp [go_sem,C4,hf,hi,HG,hw,iI,e]
    exact aA (by simp [go_sem]) ⟨by simp [go_sem,hz],rfl⟩
  ·have hz:a = b:=by
    apply List.ext_getElem he
    intro i h1 h2
    have:=hJ i h1
    simpa [h1,h2] using this
   simp [go_sem,C4,hf]
   exact aA (by simp [go_sem]) ⟨by simp [go_sem,hz],rfl⟩
end Go.Proofs
namespace Go.Proofs
open Go Go.Pl Tryz
theorem HJ (L:List eR) (most:Int) (l:List Ex) (nJ:(bu L most l).2 = 0) (bB:∀ e,e ∈ l -> NE e) (A3:∀ e,e ∈ l -> NR e) (bx:aa):aw prog 46 [ck L most l] bx fun r bx'=>bx' = bx /\ ∃ v,BF 1 ((ct L most l).1.map iI) v /\ r = .dc [v,.bool (ct L most l).2]:=by
 obtain ⟨Kc,eZ⟩:∃ Kc:V -> aa -> Prop,Kc = fun r bx'=>bx' = bx /\ ∃ v,BF 1 ((ct L most l).1.map iI) v /\ r = .dc [v,.bool (ct L most l).2]:=⟨_,rfl⟩
 rw [<- eZ]
 refine VO fun hf=>?_
 obtain ⟨q1,q2,q3,q4,q5,q6,q7⟩:=im nJ
 have hr:=HI L most l (by omega) (by omega) bB A3 bx
 rw [uJ nJ] at hr
 have JR:=(Am L most l).2
 have hg:=(fY (gx L most l) l.length).aI
 unfold ct at eZ
 have hfe:(eF (fp L most l) l l.length).aI = kL L most l:=rfl
 rw [hfe] at eZ hg
 generalize kL L most l = F at hr JR hg eZ
 obtain ⟨R,hR⟩:∃ R,kK l.length F = R:=⟨_,rfl⟩
 rw [hR] at eZ
 have px:IntKind.i64.wrap ((l.length:Int) - 1) = (l.length:Int) - 1:=gN (by omega)
 simp [go_sem,C46,hf,ck]
 refine ah hr ?_
 simp [go_sem,hf,iI]
 refine iM (ι:=V × aa) F.length (fun k q=>ba q.2 /\ Ext bx q.2 /\ aY q.2 3 1 (((F.take k).map (·.1)).map iI) q.1 /\ kg bx q.1 /\ ∀ j (hj:j < F.length),j < k -> ¬ F[j].2 < (l.length:Int) - 1) (fun k q=>⟨38,bR [(1,.ep (.agg [.sl 4 (L.map bG),iI most,.sl 8 (l.map ey)]) 0),(4,.sl 2 (F.map bH)),(6,q.1),(7,.int .i64 k)],q.2⟩) (.aH,bx) ⟨hf,Ext.refl _,.inl ⟨rfl,rfl⟩,(show kg bx .aH from fun b sz o m e=>by cases e),fun j hj h=>absurd h (Nat.not_lt_zero _)⟩ (ak (by simp [go_sem,iI])) (fun k q hk hJ N hN=>?_) (fun q hJ N=>?_)
 ·obtain ⟨v,bx2⟩:=q
  obtain ⟨cm,cQ,ho,xZ,gr⟩:=hJ
  dsimp only at cm cQ ho xZ gr ⊢
  have hw:=bj (k:=k) (by omega)
  have fJ:=JR _ (List.getElem_mem hk)
  simp [go_sem,Gv,hk,cm,bH,iI,px,ho.strip,ho.live]
  refine ⟨fun h1=>?_,fun h1=>?_⟩
  ·have Pp:R = ([],false):=by rw [<- hR]; exact u3 hk (by omega)
   refine bp (by simp [go_sem]) cQ ?_
   rw [eZ,Pp]
   exact ⟨rfl,.aH,.inr ⟨rfl,rfl⟩,by simp [go_sem]⟩
  ·intro b7 Ey
   have BE:bx b7 = none:=cQ.none Ey
   have Rr:=ho.beside Ey (some (bF.row 3 1 [V.int .i64 F[k].1]))
   have LN:ba (aB bx2 b7 (some (bF.row 3 1 [V.int .i64 F[k].1]))):=(an _ _ _).2 cm
   have Pq:Ext bx (aB bx2 b7 (some (bF.row 3 1 [V.int .i64 F[k].1]))):=cQ.aJ BE _
   have Hy:aB bx2 b7 (some (bF.row 3 1 [V.int .i64 F[k].1])) b7 = some (bF.row 3 1 [V.int .i64 F[k].1]):=af _ _ _
   generalize aB bx2 b7 (some (bF.row 3 1 [V.int .i64 F[k].1])) = bx3 at *
   refine dx (.int .i64 0) Rr LN (news:=[iI F[k].1]) Gf FQ (by simp [go_sem,bM,Hy,iI]) FR (by simp [go_sem]) (by decide) (by simp [TU]; omega) (by simp; omega) (by simp [go_sem]) fun v' bx' ha hm _=>?_
   obtain ⟨e1,e2⟩:=hm.base Pq xZ
   have fI:aY bx' 3 1 (((F.take (k + 1)).map (·.1)).map iI) v':=by
    rw [List.take_succ_eq_append_getElem hk,List.map_append,List.map_append]; exact ha
   simp [go_sem,hm.fin,ha.strip,ha.live,ha.cells,ha.okV,hw]
   exact hN _ (v',bx') ⟨hm.fin,e1,fI,e2,fun j hj AO=>by
    rcases Nat.lt_or_ge j k with h | h
    ·exact gr j hj h
    ·have:j = k:=by omega
     subst this
     omega⟩ (ak (by simp [go_sem,iI]))
 ·obtain ⟨v,bx2⟩:=q
  obtain ⟨cm,cQ,ho,xZ,gr⟩:=hJ
  dsimp only at cm cQ ho xZ gr ⊢
  have Pp:R = (F.map (·.1),true):=by rw [<- hR]; exact rS fun j hj=>gr j hj hj
  rw [List.take_of_length_le (Nat.le_refl _)] at ho
  simp [go_sem,Gv,cm,ho.strip,ho.live]
  refine fw 2 (by simp [go_sem,ho.strip,ho.live]) cQ ?_
  have e4:cK bx2 bx 2 (kG prog ⟨38,bR [(2,v),(3,.bool true)],bx2⟩ [.tmp 2,.tmp 3]) = .dc [cK bx2 bx 1 v,.bool true]:=by simp [go_sem,cK,ho.strip]
  rw [e4,eZ,Pp]
  refine ⟨rfl,_,?_,rfl⟩
  rcases ho with ⟨h0,rfl⟩ | ⟨b3,rfl,nU⟩
  ·exact .inr ⟨h0,rfl⟩
  ·exact .inl (fe nU (xZ _ _ _ _ rfl) (by decide) rfl)
theorem KA (L:List eR) (most:Int) (l:List Ex) (nJ:(bu L most l).2 = 0) (bB:∀ e,e ∈ l -> NE e) (A3:∀ e,e ∈ l -> NR e) (bx:aa):ay prog 46 [ck L most l] bx (.dc [.sl 1 ((ct L most l).1.map iI),.bool (ct L most l).2]):=by
 refine ay.wk ((HJ L most l nJ bB A3 bx).mono ?_)
 rintro r bx' ⟨rfl,v,hv,rfl⟩
 exact ⟨pX hv.wk (Wk.refl _),rfl⟩
theorem ED (L:List eR) (most:Int) (l:List Ex) (hL:L.length <= 1000000) (hl:l.length <= 1000000) (bx:aa):ay prog 23 [ck L most l,ck L most l] bx (.bool true):=by
 refine L4 fun hf=>?_
 simp [go_sem,C23,hf,ck,iI]
 refine ch L.length (fun i=>⟨66,bR [(2,.ep (.agg [.sl 4 (L.map bG),iI most,.sl 8 (l.map ey)]) 0),(3,.ep (.agg [.sl 4 (L.map bG),iI most,.sl 8 (l.map ey)]) 0),(5,.int .i64 i)],bx⟩) (ak (by simp [go_sem,iI])) (fun i hi N hN=>?_) (fun N=>?_)
 ·have hw:=bj (k:=i) (by omega)
  simp [go_sem,C0,hf,hi,bG,iI,hw]
  exact hN _ (ak (by simp [go_sem,iI]))
 ·simp [go_sem,C0,hf]
  refine ch l.length (fun i=>⟨66,bR [(2,.ep (.agg [.sl 4 (L.map bG),iI most,.sl 8 (l.map ey)]) 0),(3,.ep (.agg [.sl 4 (L.map bG),iI most,.sl 8 (l.map ey)]) 0),(6,.int .i64 i)],bx⟩) (ak (by simp [go_sem,iI])) (fun i hi N hN=>?_) (fun N=>?_)
  ·have hw:=bj (k:=i) (by omega)
   simp [go_sem,C1,hf,hi,ey,dQ,iI,hw]
   exact hN _ (ak (by simp [go_sem,iI]))
  ·simp [go_sem,C1,hf]
   exact aA (by simp [go_sem]) ⟨by simp [go_sem],rfl⟩
theorem EE (bx:aa):ay prog 23 [.agg [.aH,.int .i64 0,.aH],.agg [.aH,.int .i64 0,.aH]] bx (.bool true):=by
 refine L4 fun hf=>?_
 simp [go_sem,C23,hf]
 refine ch 0 (fun i=>⟨66,bR [(2,.ep (.agg [.aH,.int .i64 0,.aH]) 0),(3,.ep (.agg [.aH,.int .i64 0,.aH]) 0),(5,.int .i64 i)],bx⟩) (ak (by simp [go_sem,iI])) (fun i hi N hN=>by omega) (fun N=>?_)
 simp [go_sem,C0,hf]
 refine ch 0 (fun i=>⟨66,bR [(2,.ep (.agg [.aH,.int .i64 0,.aH]) 0),(3,.ep (.agg [.aH,.int .i64 0,.aH]) 0),(6,.int .i64 i)],bx⟩) (ak (by simp [go_sem,iI])) (fun i hi N hN=>by omega) (fun N=>?_)
 simp [go_sem,C1,hf]
 exact aA (by simp [go_sem]) ⟨by simp [go_sem],rfl⟩
theorem HK {P:Program} {f:FuncId} {bx:aa} {b6 c1 c2:Nat} {L:List eR} {most:Int} {O:List Ex} {ty1 ty2:TypeId} (h6:bx b6 = some (.row 25 3 [.agg [.own c1 4 0 L.length,iI most,.own c2 8 0 O.length]])) (h1:bx c1 = some (.row ty1 4 (L.map bG))) (h2:bx c2 = some (.row ty2 8 (O.map ey)))
 (n61:b6 ≠ c1) (n62:b6 ≠ c2) {Kc:V -> aa -> Prop} (h:aw P f [ck L most O] (aB (aB (aB bx c1 none) c2 none) b6 (some (.row 25 3 [ck L most O]))) Kc):aw P f [.agg [.own c1 4 0 L.length,iI most,.own c2 8 0 O.length]] bx Kc:=by
 obtain ⟨bxF,ET⟩:∃ bxF,aB (aB (aB bx c1 none) c2 none) b6 (some (.row 25 3 [ck L most O])) = bxF:=⟨_,rfl⟩
 rw [ET] at h
 have f6:bxF b6 = some (.row 25 3 [ck L most O]):=by rw [<- ET,af]
 have f1:bxF c1 = none:=by
  rw [<- ET,ae _ _ n61.symm]
  by_cases e:c1 = c2
  ·rw [e,af]
  ·rw [ae _ _ e,af]
 have f2:bxF c2 = none:=by rw [<- ET,ae _ _ n62.symm,af]
 have l1:j9 bx bxF (.own c1 4 0 L.length) (.sl 4 (L.map bG)):=.own h1 f1 (by decide) (by simp)
 have l2:j9 bx bxF (.own c2 8 0 O.length) (.sl 8 (O.map ey)):=.own h2 f2 (by decide) (by simp)
 have lc:∀ (j:Nat) (c c':V),[V.own c1 4 0 L.length,iI most,.own c2 8 0 O.length][j]? = some c -> [V.sl 4 (L.map bG),iI most,.sl 8 (O.map ey)][j]? = some c' -> j9 bx bxF c c':=fun j c c' hc ec=>by
  rcases j with _ | _ | _ | j
  ·injection hc with hc; injection ec with ec; rw [<- hc,<- ec]; exact l1
  ·injection hc with hc; injection ec with ec; rw [<- hc,<- ec]; exact .refl _ _ _
  ·injection hc with hc; injection ec with ec; rw [<- hc,<- ec]; exact l2
  ·cases hc
 have hs:bX bx bxF:=DX (b:=b6) (by decide) h6 f6 rfl (fun i e e' he nS=>by
  rcases i with _ | i
  ·injection he with he; injection nS with nS; rw [<- he,<- nS]; exact .agg rfl lc
  ·cases he) fun d hd=>by
   rw [<- ET,ae _ _ hd]
   by_cases e:d = c2
   ·rw [e,af]; exact .inl rfl
   ·rw [ae _ _ e]
    by_cases e:d = c1
    ·rw [e,af]; exact .inl rfl
    ·rw [ae _ _ e]; exact .inr rfl
 refine aw.less (args':=[ck L most O]) hs rfl (fun i c c' hc ec=>?_) h
 rcases i with _ | i
 ·injection hc with hc; injection ec with ec; rw [<- hc,<- ec]; unfold ck; exact .agg rfl lc
 ·cases hc
theorem XA (L:List eR) (most:Int) (l:List Ex) (hL:L.length <= 1000000) (hl:l.length <= 4000000000000000000) (bB:∀ e,e ∈ l -> NE e) (A3:∀ e,e ∈ l -> NR e) (bx:aa):ay prog 22 [ck L most l] bx (.dc [kj L most (fE L most l),iI (fE L most l).2]):=by
 obtain ⟨Kc,eZ⟩:∃ Kc:V -> aa -> Prop,Kc = fun r bx'=>r = .dc [kj L most (fE L most l),iI (fE L most l).2] /\ bx' = bx:=⟨_,rfl⟩
 show aw _ _ _ _ (fun r bx'=>r = .dc [kj L most (fE L most l),iI (fE L most l).2] /\ bx' = bx)
 rw [<- eZ]
 refine V8 fun hf=>?_
 have en:∀ z,fE L most l = z -> Kc (.dc [kj L most z,iI z.2]) bx:=fun z hz=>by rw [eZ,hz]; exact ⟨rfl,rfl⟩
 have hF:=HI L most l hL hl bB A3
 have hE:∀ (b:Nat) (x:bF),bx b = none -> Ext bx (aB bx b (some x)):=fun b x hb=>(Ext.refl bx).aJ hb _
 simp [go_sem,C22,hf,ck]
 intro b2 cz
 by_cases nJ:(bu L most l).2 = 0
 rotate_left
 ·have hz:fE L most l = ([],(bu L most l).2):=by unfold fE; rw [if_pos nJ]
  have hf0:ga L most l = ([],(bu L most l).2):=by unfold ga; rw [if_neg nJ]
  rw [hf0] at hF
  refine ah (hF _) ?_
  simp [go_sem,hf,iI,nJ,af,an]
  refine bp (by simp [go_sem,af]) (hE _ _ cz) ?_
  have:=en _ hz
  simpa [go_sem,af,kj,nJ,iI] using this
 rw [uJ nJ] at hF
 refine ah (hF _) ?_
 cases pY:kL L most l with
 | nil =>
   have hz:fE L most l = ([],4):=by unfold fE; rw [if_neg (by simpa using nJ),pY]
   simp [go_sem,hf,iI,af,an]
   refine bp (by simp [go_sem,af]) (hE _ _ cz) ?_
   have:=en _ hz
   simpa [go_sem,af,kj,iI] using this
 | cons f t =>
   have hg:¬ ((t.length:Int) + 1 = 0):=by omega
   by_cases h60:60 <= f.2
   ·have hz:fE L most l = ([],3):=by unfold fE; rw [if_neg (by simpa using nJ),pY]; dsimp only; rw [if_pos h60]
    simp [go_sem,hf,iI,af,an,bH,h60,hg]
    refine bp (by simp [go_sem,af]) (hE _ _ cz) ?_
    have:=en _ hz
    simpa [go_sem,af,kj,iI] using this
   have hz:fE L most l = (E5 L most (l.take (f.2.toNat + 1)),0):=by unfold fE; rw [if_neg (by simpa using nJ),pY]; dsimp only; rw [if_neg h60]
   obtain ⟨q1,q2,q3,q4,q5,q6,q7⟩:=im nJ
   obtain ⟨m,hm,PW,-⟩:=nm pY
   rw [hm] at h60
   rw [show f.2.toNat = m by omega] at hz
   have hw:IntKind.i64.wrap ((m:Int) + 1) = ((m + 1:Nat):Int):=bj (by omega)
   have hN1:(((m + 1:Nat):Int)).toNat = m + 1:=by omega
   simp [go_sem,hf,iI,af,an,bH,hm,h60,hg]
   refine ⟨by simp [jd,mh],?_⟩
   intro b3 nU
   have n23:b2 ≠ b3:=by rintro rfl; simp [af] at nU
   have XB:bx b3 = none:=by rwa [ae _ _ n23.symm] at nU
   obtain ⟨bx3,jA⟩:∃ bx3,aB (aB bx b2 (some (bF.row 25 3 [V.agg [V.aH,V.int .i64 0,V.aH]]))) b3 (some (bF.row 111 4 [])) = bx3:=⟨_,rfl⟩
   have ho3:aY bx3 111 4 [] (.own b3 4 0 0):=.inr ⟨b3,rfl,by rw [<- jA,af]⟩
   have uN:kg bx (.own b3 4 0 0):=fun b sz o m e=>by injection e with e; rw [<- e]; exact XB
   have lU:ba bx3:=by rw [<- jA]; exact (an _ _ _).2 ((an _ _ _).2 hf)
   have sN:Ext bx bx3:=by rw [<- jA]; exact ((Ext.refl bx).aJ cz _).aJ XB _
   have r2:bx3 b2 = some (bF.row 25 3 [V.agg [V.aH,V.int .i64 0,V.aH]]):=by rw [<- jA,ae _ _ n23,af]
   rw [jA]
   clear jA nU
   refine dx (.agg #[.int .i64 0,.int .i64 0,.int .i64 0,.int .i64 0]) ho3 lU (news:=L.map bG) FU xC (by simp [bM]) zB (by simp [go_sem]) (by decide) (by simp [FZ]; omega) (by simp; omega) (by simp [go_sem]) fun v4 bx4 ha4 hm4 _=>?_
   obtain ⟨x4,n4⟩:=hm4.base sN uN
   have s2:=(hm4.other (by rw [r2]; simp) (fun sz o m e=>by injection e with e; exact n23 e.symm)).trans r2
   have lI:=hm4.fin
   rw [List.nil_append] at ha4
   clear ho3 uN hm4 r2 lU sN
   simp [go_sem,lI,ha4.strip,ha4.live,ha4.cells,ha4.okV,iI,hw]
   intro b5 Ep
   have n25:b2 ≠ b5:=by rintro rfl; rw [s2] at Ep; cases Ep
   have Kg:bx b5 = none:=x4.none Ep
   have uO:=ha4.beside Ep (some (bF.row 69 8 []))
   obtain ⟨jt,qt⟩:∃ jt,aB bx4 b5 (some (bF.row 69 8 [])) = jt:=⟨_,rfl⟩
   rw [qt] at uO
   have Pc:aY jt 69 8 [] (.own b5 8 0 0):=.inr ⟨b5,rfl,by rw [<- qt,af]⟩
   have hn5:kg bx (.own b5 8 0 0):=fun b sz o m e=>by injection e with e; rw [<- e]; exact Kg
   have nG:ba jt:=by rw [<- qt]; exact (an _ _ _).2 lI
   have EP:Ext bx jt:=by rw [<- qt]; exact x4.aJ Kg _
   have r2:jt b2 = some (bF.row 25 3 [V.agg [V.aH,V.int .i64 0,V.aH]]):=by rw [<- qt,ae _ _ n25]; exact s2
   have n45:∀ sz o m,v4 ≠ .own b5 sz o m:=fun sz o m e=>by
    rcases ha4 with ⟨_,h0⟩ | ⟨c,h0,hc⟩
    ·rw [h0] at e; cases e
    ·rw [h0] at e; injection e with e; rw [e] at hc; rw [Ep] at hc; cases hc
   rw [qt]
   clear qt
   refine ⟨by omega,?_⟩
   rw [<- List.map_take]
   obtain ⟨O,hO⟩:∃ O,l.take (m + 1) = O:=⟨_,rfl⟩
   rw [hO] at hz ⊢
   have hOl:O.length = m + 1:=by rw [<- hO,List.length_take]; omega
   have X4:∀ e,e ∈ O -> e ∈ l:=fun e he=>by rw [<- hO] at he; exact List.mem_of_mem_take he
   refine dx (.agg #[.int .i64 0,.int .i64 0,.int .i64 0,.int .i64 0,.int .i64 0,.int .i64 0,.int .i64 0,.bool false]) Pc nG (news:=O.map ey) r9 qa (by simp [bM]) lD (by simp [go_sem]) (by decide) (by simp [tS]; omega) (by simp; omega) (by simp [go_sem]) fun v6 qw Iw hm6 _=>?_
   obtain ⟨x6,n6⟩:=hm6.base EP hn5
   have s2':=(hm6.other (by rw [r2]; simp) (fun sz o m e=>by injection e with e; exact n25 e.symm)).trans r2
   have De:=hm6.fin
   rw [List.nil_append] at Iw
   have HL:aY qw 111 4 (L.map bG) v4:=by
    rcases uO with h0 | ⟨c,h0,hc⟩
    ·exact .inl h0
    ·exact .inr ⟨c,h0,(hm6.other (by rw [hc]; simp) (fun sz o m e=>by injection e with e; exact n45 _ _ _ (by rw [h0,e]))).trans hc⟩
   clear Pc hn5 hm6 r2 nG EP s2 lI x4 Ep n45 uO ha4
   simp [go_sem,De,HL.strip,HL.live,HL.cells,HL.okV,Iw.strip,Iw.live,Iw.cells,Iw.okV,iI,hw]
   intro b6 hb6
   have n26:b2 ≠ b6:=by rintro rfl; rw [s2'] at hb6; cases hb6
   have EB:bx b6 = none:=x6.none hb6
   rcases HL with ⟨h0,_⟩ | ⟨c1,rfl,nt⟩
   ·rw [List.map_eq_nil_iff] at h0; rw [h0] at q2; simp at q2
   rcases Iw with ⟨h0,_⟩ | ⟨c2,rfl,qv⟩
   ·rw [List.map_eq_nil_iff] at h0; rw [h0] at hOl; simp at hOl
   have n61:b6 ≠ c1:=by rintro rfl; rw [nt] at hb6; cases hb6
   have n62:b6 ≠ c2:=by rintro rfl; rw [qv] at hb6; cases hb6
   have n21:b2 ≠ c1:=by rintro rfl; rw [s2'] at nt; simp at nt
   have n22:b2 ≠ c2:=by rintro rfl; rw [s2'] at qv; simp at qv
   have aeh:bx c1 = none:=n4 c1 _ _ _ rfl
   have aei:bx c2 = none:=n6 c2 _ _ _ rfl
   simp only [List.length_map]
   obtain ⟨bxF,ET⟩:∃ bxF,aB (aB (aB (aB qw b6 (some (bF.row 25 3 [V.agg [V.own c1 4 0 L.length,V.int .i64 most,V.own c2 8 0 O.length]]))) c1 none) c2 none) b6 (some (.row 25 3 [ck L most O])) = bxF:=⟨_,rfl⟩
   have hfF:ba bxF:=by rw [<- ET]; exact (an _ _ _).2 ((an _ _ _).2 ((an _ _ _).2 ((an _ _ _).2 De)))
   have sP:bxF b2 = some (bF.row 25 3 [V.agg [V.aH,V.int .i64 0,V.aH]]):=by rw [<- ET,ae _ _ n26,ae _ _ n22,ae _ _ n21,ae _ _ n26]; exact s2'
   have yH:bxF b6 = some (.row 25 3 [ck L most O]):=by rw [<- ET,af]
   have hxF:Ext bx bxF:=by rw [<- ET]; exact (((x6.aJ EB _).aJ aeh _).aJ aei _).aJ EB _
   have jo:∀ o:List Ex,(∀ e,e ∈ o -> e ∈ O) -> o.length <= O.length -> (bu L most o).2 = 0:=fun o h1 h2=>E4 nJ (fun e he=>X4 e (h1 e he)) (by omega)
   have hK:∀ o:List Ex,(∀ e,e ∈ o -> e ∈ O) -> o.length <= O.length -> ∀ bx',ay prog 46 [ck L most o] bx' (.dc [.sl 1 ((ct L most o).1.map iI),.bool (ct L most o).2]):=fun o h1 h2 bx'=>KA L most o (jo o h1 h2) (fun e he=>bB e (X4 e (h1 e he))) (fun e he=>A3 e (X4 e (h1 e he))) bx'
   refine ar (HK (b6:=b6) (c1:=c1) (c2:=c2) (af _ _ _) (by rw [ae _ _ n61.symm]; exact nt) (by rw [ae _ _ n62.symm]; exact qv) n61 n62 (hK O (fun _ h=>h) (Nat.le_refl _) _)) ?_
   rintro r bx7 ⟨rfl,h7⟩
   have h7:bx7 = bxF:=h7.trans ET
   subst h7
   clear ET hb6 s2' De x6 n4 n6 nt qv
   obtain ⟨want,wA⟩:∃ want,(ct L most O).1 = want:=⟨_,rfl⟩
   have X5:fE L most l = (j5 (kM L most want) O.length O,0):=by rw [hz]; unfold E5 Dh; rw [wA]
   rw [wA]
   obtain ⟨R,hR⟩:∃ R,j5 (kM L most want) O.length O = R:=⟨_,rfl⟩
   rw [hR] at X5
   have hKR:=en _ X5
   clear en hF
   have px:∀ o:List Ex,o.length <= O.length -> (ct L most o).1.length <= 100000:=fun o ho=>by
    unfold ct kK
    have hg:=(fY (gx L most o) o.length).aI
    split
    ·simp
    ·simp; omega
   simp [go_sem,hfF,iI]
   refine pV (ι:=Bool × Nat × List Ex × aa) (fun i=>(ba i.2.2.2 /\ Ext bx i.2.2.2 /\ i.2.2.2 b2 = some (.row 25 3 [.agg [.aH,.int .i64 0,.aH]]) /\ i.2.2.2 b6 = some (.row 25 3 [ck L most i.2.2.1])) /\ ((∀ e,e ∈ i.2.2.1 -> e ∈ O) /\ i.2.2.1.length <= O.length /\ 1 <= i.2.2.1.length) /\ ((i.1 = false /\ i.2.2.1 = R) \/ (i.1 = true /\ i.2.2.1.length <= i.2.1 /\ j5 (kM L most want) i.2.1 i.2.2.1 = R)))
    (fun i=>⟨86,bR [(2,.ptr b2 3 0 0),(6,.ptr b6 3 0 0),(7,.sl 1 (want.map iI)),(9,.bool i.1)],i.2.2.2⟩) (fun i=>if i.1 = false then 0 else i.2.1) (true,O.length,O,bx7) ⟨⟨hfF,hxF,sP,yH⟩,⟨fun _ h=>h,Nat.le_refl _,by dsimp only; omega⟩,.inr ⟨rfl,Nat.le_refl _,hR⟩⟩ (ak (by simp [go_sem,iI])) ?_
   rintro ⟨ag,fu,out,bP⟩ ⟨⟨bg,iH,sP,yH⟩,⟨PF,JQ,c9⟩,JR⟩
   dsimp only at bg iH sP yH PF JQ c9 JR ⊢
   unfold ck at yH
   rcases JR with ⟨rfl,rfl⟩ | ⟨rfl,hfu,sj⟩
   ·simp [go_sem,Gp,bg,yH,sP]
    refine bp (by simp [go_sem,af]) (iH.aJ cz _) ?_
    simpa [go_sem,af,kj,iI,ck] using hKR
   ·obtain ⟨N0,hN0⟩:∃ N0,out.length = N0 + 1:=⟨out.length - 1,by omega⟩
    have Rx:IntKind.i64.wrap ((out.length:Int) - 2) = (N0:Int) - 1 - ((0:Nat):Int):=by rw [gN (by omega)]; omega
    obtain ⟨P,hP⟩:∃ P,fP (kM L most want) N0 out = P:=⟨_,rfl⟩
    have hPl:=lh (kM L most want) N0 out (by omega)
    rw [hP] at hPl
    have X6:∀ e,e ∈ P -> e ∈ O:=fun e he=>PF e ((nK (kM L most want) N0 out).subset (by rw [hP]; exact he))
    obtain ⟨fu',rfl⟩:∃ fu',fu = fu' + 1:=⟨fu - 1,by omega⟩
    have y3:if P.length = out.length then P = R else j5 (kM L most want) fu' P = R:=by
     unfold j5 at sj
     rw [show out.length - 1 = N0 by omega,hP] at sj
     split
     ·rename_i h; rw [if_pos h] at sj; exact sj
     ·rename_i h; rw [if_neg h] at sj; exact sj
    simp [go_sem,Gp,bg,yH,sP]
    rw [Rx]
    refine iM (ι:=List Ex × aa) N0 (fun j q=>(ba q.2 /\ Ext bx q.2 /\ q.2 b2 = some (.row 25 3 [.agg [.aH,.int .i64 0,.aH]]) /\ q.2 b6 = some (.row 25 3 [ck L most q.1])) /\ (∀ e,e ∈ q.1 -> e ∈ O) /\ q.1.length <= out.length /\ N0 - j < q.1.length /\ fP (kM L most want) (N0 - j) q.1 = P)
     (fun j q=>⟨86,bR [(2,.ptr b2 3 0 0),(6,.ptr b6 3 0 0),(7,.sl 1 (want.map iI)),(9,.bool (decide (q.1.length < out.length))),(10,.int .i64 ((N0:Int) - 1 - (j:Int)))],q.2⟩) (out,bP) ⟨⟨bg,iH,sP,by unfold ck; exact yH⟩,PF,Nat.le_refl _,by dsimp only; omega,hP⟩ (ak (by simp [go_sem,iI])) (fun j q hj hJ N hN=>?_) (fun q hJ N=>?_)
    ·obtain ⟨o,bx2⟩:=q
     obtain ⟨⟨cm,cQ,jI,wB⟩,hoo,hoL,ly,y4⟩:=hJ
     dsimp only at cm cQ jI wB hoo hoL ly y4 ⊢
     obtain ⟨k,hk⟩:∃ k,N0 - j = k + 1:=⟨N0 - j - 1,by omega⟩
     have e10:(N0:Int) - 1 - (j:Int) = (k:Int):=by omega
     have e11:(N0:Int) - 1 - ((j + 1:Nat):Int) = (k:Int) - 1:=by omega
     have ja:IntKind.i64.wrap ((k:Int) - 1) = (k:Int) - 1:=gN (by omega)
     rw [e10]
     have DM:(0:Int) <= (k:Int):=by omega
     have hDl:=jX (l:=o) (k:=k) (by omega)
     have X7:∀ e,e ∈ bK o k -> e ∈ O:=fun e he=>hoo e ((pg o k).subset he)
     have hls:=fun bx'=>PI L most o k (by omega) (by omega) bx'
     have hkd:=fun bx'=>hK (bK o k) X7 (by omega) bx'
     have qW:fP (kM L most want) k (iP (kM L most want) o k) = P:=by rw [hk] at y4; exact y4
     have ou:N0 - (j + 1) = k:=by omega
     obtain ⟨kd,XC⟩:∃ kd,ct L most (bK o k) = kd:=⟨_,rfl⟩
     have AN:=px (bK o k) (by omega)
     have fb:iP (kM L most want) o k = if kd.2 && decide (kd.1 = want) then bK o k else o:=by unfold iP kM; rw [XC]
     rw [XC] at hkd AN
     unfold ck at wB hls hkd
     simp [go_sem,Gn,cm,wB,jI,DM,iI]
     refine ah (hls _) ?_
     simp [go_sem,cm,iI]
     refine ah (hkd _) ?_
     cases vC:kd.2
     ·rw [vC] at fb
      have fb:iP (kM L most want) o k = o:=fb
      rw [fb] at qW
      simp [go_sem,cm,iI]
      refine js (.bool false) (by simp [go_sem]) ?_
      simp [go_sem,cm,ja]
      have fR:=fun s=>hN s (o,bx2) ⟨⟨cm,cQ,jI,by unfold ck; exact wB⟩,hoo,hoL,by dsimp only; omega,by rw [ou]; exact qW⟩
      dsimp only at fR
      rw [e11] at fR
      exact fR _ (ak (by simp [go_sem,iI]))
     ·rw [vC] at fb
      simp [go_sem,cm,iI]
      refine dI (PJ kd.1 want (by omega) _) (by simp) (by simp [go_sem]) ?_
      by_cases hq:kd.1 = want
      ·have fb:iP (kM L most want) o k = bK o k:=by rw [fb,decide_eq_true hq]; rfl
       rw [fb] at qW
       simp [go_sem,cm,wB,hq,iI]
       refine ah (hls _) ?_
       simp [go_sem,cm,wB,iI,ja,an]
       have fR:=fun s=>hN s (bK o k,aB bx2 b6 (some (.row 25 3 [ck L most (bK o k)]))) ⟨⟨(an _ _ _).2 cm,cQ.aJ EB _,by dsimp only; rw [ae _ _ n26]; exact jI,af _ _ _⟩,X7,by dsimp only; omega,by dsimp only; omega,by rw [ou]; exact qW⟩
       dsimp only at fR
       rw [e11,show decide ((bK o k).length < out.length) = true by simp; omega] at fR
       exact fR _ (ak (by simp [go_sem,iI,ck]))
      ·have fb:iP (kM L most want) o k = o:=by rw [fb,decide_eq_false hq]; rfl
       rw [fb] at qW
       simp [go_sem,cm,hq,iI,ja]
       have fR:=fun s=>hN s (o,bx2) ⟨⟨cm,cQ,jI,by unfold ck; exact wB⟩,hoo,hoL,by dsimp only; omega,by rw [ou]; exact qW⟩
       dsimp only at fR
       rw [e11] at fR
       exact fR _ (ak (by simp [go_sem,iI]))
    ·obtain ⟨o,bx2⟩:=q
     obtain ⟨⟨cm,cQ,jI,wB⟩,hoo,hoL,ly,y4⟩:=hJ
     dsimp only at cm cQ jI wB hoo hoL ly y4 ⊢
     rw [Nat.sub_self] at y4
     have y4:o = P:=y4
     subst y4
     have tg:¬ ((N0:Int) <= (N0:Int) - 1):=by omega
     simp [go_sem,Gn,cm,tg]
     by_cases he:o.length = out.length
     ·rw [if_pos he] at y3
      have dr:¬ o.length < out.length:=by omega
      exact ⟨(false,fu',o,bx2),⟨⟨cm,cQ,jI,wB⟩,⟨X6,by dsimp only; omega,by dsimp only; omega⟩,.inl ⟨rfl,y3⟩⟩,ak (by simp [go_sem,iI,dr]),by dsimp only; rw [if_pos rfl]; omega⟩
     ·rw [if_neg he] at y3
      have dr:o.length < out.length:=by omega
      exact ⟨(true,fu',o,bx2),⟨⟨cm,cQ,jI,wB⟩,⟨X6,by dsimp only; omega,by dsimp only; omega⟩,.inr ⟨rfl,by dsimp only; omega,y3⟩⟩,ak (by simp [go_sem,iI,dr]),by dsimp only; rw [if_neg (by decide)]; omega⟩
end Go.Proofs
namespace Go.Proofs
open Go Go.Pl Go.RowKit Go.Shelf Tryz
def Ar:Ren:={ f:=fun x=>match x with | 157=>49 | 229=>93 | 199=>94 | 261=>135 | 311=>163 | 312=>164 | n=>n,t:=fun x=>match x with | 9=>9 | 31=>123 | 3=>3 | 5=>5 | 4=>4 | 119=>166 | 0=>0 | 40=>168 | 152=>210 | 21=>21 | 154=>212 | 51=>213 | 141=>215 | 196=>246 | 193=>243 | 198=>248 | 49=>64 | 194=>244 | 201=>251 | 226=>272 | 46=>236 | 227=>273 | n=>n,g:=fun x=>match x with | 0=>0 | 6=>1 | n=>n }
theorem aej:Lays.n157 prog Ar where
 mixed:=by kernel_rfl
 f157:=func49.trans (congrArg some (by kernel_rfl))
 f199:=func94.trans (congrArg some (by kernel_rfl))
 f229:=func93.trans (congrArg some (by kernel_rfl))
 f261:=func135.trans (congrArg some (by kernel_rfl))
 f311:=func163.trans (congrArg some (by kernel_rfl))
 f312:=func164.trans (congrArg some (by kernel_rfl))
 t0:=Tryz.underlying0
 a0:=Tryz.isAgg0
 z0:=Tryz.sizeOf0
 v0:=Tryz.zeroValue0
 t3:=Tryz.underlying3
 a3:=Tryz.isAgg3
 z3:=Tryz.sizeOf3
 v3:=Tryz.zeroValue3
 t4:=Tryz.underlying4
 a4:=Tryz.isAgg4
 z4:=Tryz.sizeOf4
 v4:=Tryz.zeroValue4
 t5:=Tryz.underlying5
 a5:=Tryz.isAgg5
 z5:=Tryz.sizeOf5
 v5:=Tryz.zeroValue5
 t9:=Tryz.underlying9
 a9:=Tryz.isAgg9
 z9:=Tryz.sizeOf9
 v9:=Tryz.zeroValue9
 t21:=Tryz.underlying21
 a21:=Tryz.isAgg21
 z21:=Tryz.sizeOf21
 v21:=Tryz.zeroValue21
 t31:=Tryz.underlying123
 a31:=Tryz.isAgg123
 z31:=Tryz.sizeOf123
 v31:=Tryz.zeroValue123
 t40:=Tryz.underlying168
 a40:=Tryz.isAgg168
 z40:=Tryz.sizeOf168
 v40:=Tryz.zeroValue168
 t46:=Tryz.underlying236
 a46:=Tryz.isAgg236
 z46:=Tryz.sizeOf236
 v46:=Tryz.zeroValue236
 t49:=Tryz.underlying64
 a49:=Tryz.isAgg64
 z49:=Tryz.sizeOf64
 v49:=Tryz.zeroValue64
 t51:=Tryz.underlying213
 a51:=Tryz.isAgg213
 z51:=Tryz.sizeOf213
 v51:=Tryz.zeroValue213
 t119:=Tryz.underlying166
 a119:=Tryz.isAgg166
 z119:=Tryz.sizeOf166
 t141:=Tryz.underlying215
 a141:=Tryz.isAgg215
 z141:=Tryz.sizeOf215
 v141:=Tryz.zeroValue215
 t152:=Tryz.underlying210
 a152:=Tryz.isAgg210
 z152:=Tryz.sizeOf210
 v152:=Tryz.zeroValue210
 t154:=Tryz.underlying212
 a154:=Tryz.isAgg212
 z154:=Tryz.sizeOf212
 v154:=Tryz.zeroValue212
 t193:=Tryz.underlying243
 a193:=Tryz.isAgg243
 z193:=Tryz.sizeOf243
 v193:=Tryz.zeroValue243
 t194:=Tryz.underlying244
 a194:=Tryz.isAgg244
 z194:=Tryz.sizeOf244
 v194:=Tryz.zeroValue244
 t196:=Tryz.underlying246
 a196:=Tryz.isAgg246
 z196:=Tryz.sizeOf246
 v196:=Tryz.zeroValue246
 t198:=Tryz.underlying248
 a198:=Tryz.isAgg248
 z198:=Tryz.sizeOf248
 v198:=Tryz.zeroValue248
 t201:=Tryz.underlying251
 a201:=Tryz.isAgg251
 z201:=Tryz.sizeOf251
 v201:=Tryz.zeroValue251
 t226:=Tryz.underlying272
 a226:=Tryz.isAgg272
 z226:=Tryz.sizeOf272
 v226:=Tryz.zeroValue272
 t227:=Tryz.underlying273
 a227:=Tryz.isAgg273
 z227:=Tryz.sizeOf273
 v227:=Tryz.zeroValue273
 g0:=by kernel_rfl
 g6:=by kernel_rfl
def EF:Ren:={ f:=fun x=>match x with | 173=>96 | 246=>137 | 283=>165 | 284=>166 | 285=>167 | 286=>168 | 129=>180 | 317=>182 | 318=>183 | 319=>184 | 320=>185 | 337=>191 | 338=>192 | n=>n,t:=fun x=>match x with | 2=>2 | 3=>3 | 9=>9 | 4=>4 | 171=>254 | 0=>0 | 53=>255 | 37=>120 | 5=>5 | 173=>258 | 212=>275 | 51=>213 | 20=>20 | 213=>276 | 46=>236 | 232=>287 | 233=>288 | n=>n,g:=fun x=>match x with | 17=>2 | 18=>3 | 19=>4 | n=>n }
theorem XD:LaysM.n173 prog EF where
 mixed:=by kernel_rfl
 f129:=func180.trans (congrArg some (by kernel_rfl))
 f173:=func96.trans (congrArg some (by kernel_rfl))
 f246:=func137.trans (congrArg some (by kernel_rfl))
 f283:=func165.trans (congrArg some (by kernel_rfl))
 f284:=func166.trans (congrArg some (by kernel_rfl))
 f285:=func167.trans (congrArg some (by kernel_rfl))
 f286:=func168.trans (congrArg some (by kernel_rfl))
 f317:=func182.trans (congrArg some (by kernel_rfl))
 f318:=func183.trans (congrArg some (by kernel_rfl))
 f319:=func184.trans (congrArg some (by kernel_rfl))
 f320:=func185.trans (congrArg some (by kernel_rfl))
 f337:=func191.trans (congrArg some (by kernel_rfl))
 f338:=func192.trans (congrArg some (by kernel_rfl))
 t0:=Tryz.underlying0
 a0:=Tryz.isAgg0
 z0:=Tryz.sizeOf0
 v0:=Tryz.zeroValue0
 t2:=Tryz.underlying2
 a2:=Tryz.isAgg2
 z2:=Tryz.sizeOf2
 v2:=Tryz.zeroValue2
 t3:=Tryz.underlying3
 a3:=Tryz.isAgg3
 z3:=Tryz.sizeOf3
 v3:=Tryz.zeroValue3
 t4:=Tryz.underlying4
 a4:=Tryz.isAgg4
 z4:=Tryz.sizeOf4
 v4:=Tryz.zeroValue4
 t5:=Tryz.underlying5
 a5:=Tryz.isAgg5
 z5:=Tryz.sizeOf5
 v5:=Tryz.zeroValue5
 t9:=Tryz.underlying9
 a9:=Tryz.isAgg9
 z9:=Tryz.sizeOf9
 v9:=Tryz.zeroValue9
 t20:=Tryz.underlying20
 a20:=Tryz.isAgg20
 z20:=Tryz.sizeOf20
 v20:=Tryz.zeroValue20
 t37:=Tryz.underlying120
 a37:=Tryz.isAgg120
 z37:=Tryz.sizeOf120
 v37:=Tryz.zeroValue120
 t46:=Tryz.underlying236
 a46:=Tryz.isAgg236
 z46:=Tryz.sizeOf236
 v46:=Tryz.zeroValue236
 t51:=Tryz.underlying213
 a51:=Tryz.isAgg213
 z51:=Tryz.sizeOf213
 v51:=Tryz.zeroValue213
 t53:=Tryz.underlying255
 a53:=Tryz.isAgg255
 z53:=Tryz.sizeOf255
 v53:=Tryz.zeroValue255
 t171:=Tryz.underlying254
 a171:=Tryz.isAgg254
 z171:=Tryz.sizeOf254
 v171:=Tryz.zeroValue254
 t173:=Tryz.underlying258
 a173:=Tryz.isAgg258
 z173:=Tryz.sizeOf258
 v173:=Tryz.zeroValue258
 t212:=Tryz.underlying275
 a212:=Tryz.isAgg275
 z212:=Tryz.sizeOf275
 v212:=Tryz.zeroValue275
 t213:=Tryz.underlying276
 a213:=Tryz.isAgg276
 z213:=Tryz.sizeOf276
 t232:=Tryz.underlying287
 a232:=Tryz.isAgg287
 z232:=Tryz.sizeOf287
 v232:=Tryz.zeroValue287
 t233:=Tryz.underlying288
 a233:=Tryz.isAgg288
 z233:=Tryz.sizeOf288
 v233:=Tryz.zeroValue288
 g17:=by kernel_rfl
 g18:=by kernel_rfl
 g19:=by kernel_rfl
 i0:=by kernel_rfl
 i2:=by kernel_rfl
 i3:=by kernel_rfl
 i4:=by kernel_rfl
 i5:=by kernel_rfl
 i9:=by kernel_rfl
 i20:=by kernel_rfl
 i37:=by kernel_rfl
 i46:=by kernel_rfl
 i51:=by kernel_rfl
 i53:=by kernel_rfl
 i171:=by kernel_rfl
 i173:=by kernel_rfl
 i212:=by kernel_rfl
 i232:=by kernel_rfl
 i233:=by kernel_rfl
 m17:=by kernel_rfl
 m18:=by kernel_rfl
 m19:=by kernel_rfl
theorem HM {P:Program} {e:TypeId} {c:Nat} (hd:0 < P.depth) (hs:P.cellsOf e ≠ 0) (hc:1 <= c):liesAt P P.depth e c 0 e 1 = true:=by
 obtain ⟨d,hd⟩:∃ d,P.depth = d + 1:=⟨P.depth - 1,by omega⟩
 have h1:sameLayout P P.depth e e = true:=by rw [hd]; simp [sameLayout]
 have h2:rowAt P (fun t=>sameLayout P P.depth t e) P.depth e c 0 1 = true:=by
  rw [hd] at h1 ⊢
  unfold rowAt
  rw [if_neg hs]
  simp [h1,hc]
 rw [hd] at h2 ⊢
 unfold liesAt
 rw [hd]
 rw [h2]
 rfl
theorem szB:(prog.info? 122).map (·.size) = some 2:=by kernel_rfl
theorem HN:prog.cellsOf 122 = 2:=by kernel_rfl
theorem PK:0 < prog.depth:=by
 have h:decide (0 < prog.depth) = true:=by kernel_rfl
 exact of_decide_eq_true h
theorem EG (b:Nat) (w:World) (h0:w.cell? ⟨b,0,none⟩ = some (.pointer (some ⟨b,0,none⟩))) :
 Calls prog 95 #[.pointer (some ⟨b,0,none⟩)] w fun e w'=>e = .returned (.tuple #[]) /\ w' = w:=by
 obtain ⟨j,hj,hjs⟩:=Option.map_eq_some_iff.1 szB
 go_enter func95,Tryz.ntmps95
 go_wp2
 rw [Lib.run_neq_ptr_same w _ (show prog.underlying 119 = some (.pointer 122) by kernel_rfl) hj]
 go_wp2
 go_end0
 exact ⟨rfl,rfl⟩
theorem BQ (b n:Nat) (w:World) (h0:w.cell? ⟨b,0,none⟩ = some (.pointer none)) (vr:w.shape? b = some (122,n)) (hn:2 <= n) (sb:w.frozen? ⟨b,0,none⟩ = false) :
 Calls prog 95 #[.pointer (some ⟨b,0,none⟩)] w fun e w'=>e = .returned (.tuple #[]) /\ w' = w.setCell ⟨b,0,none⟩ (.pointer (some ⟨b,0,none⟩)):=by
 obtain ⟨j,hj,hjs⟩:=Option.map_eq_some_iff.1 szB
 have XE:liesAt prog prog.depth 122 (n / prog.cellsOf 122) 0 122 1 = true:=HM PK (by rw [HN]; decide) (by rw [HN]; exact (Nat.le_div_iff_mul_le (by decide)).2 (by omega))
 go_enter func95,Tryz.ntmps95
 go_wp2
 rw [Lib.run_to_unsafe w ⟨b,0,none⟩ (t:=122) (by kernel_rfl) (by kernel_rfl) hj (by rw [hjs]; decide) vr (show 0 < n by omega)]
 simp only [Result.andThen]
 rw [Oper.upon_value]
 go_wp2
 rw [run_callFunc_extern func136 (by kernel_rfl) (by kernel_rfl) (by kernel_rfl) (e:=Extern.AbiNoEscape.same) (by kernel_rfl)]
 rw [Lib.run_noEscape]
 simp only [Result.andThen]
 rw [Oper.upon_value]
 go_wp2
 rw [Lib.run_from_unsafe w ⟨b,0,none⟩ (u:=122) (by kernel_rfl) (by kernel_rfl) hj vr XE]
 simp only [Result.andThen]
 rw [Oper.upon_value]
 go_wp2
 go_end0
 exact ⟨rfl,rfl⟩
theorem As {w:World} {k:Nat} {cur:Array Value} {ty:TypeId} {fr:Nat × Nat} (h:w.heap[k]? = some (.cells cur ty fr)) (i:Nat) (v:Value):w.setCell ⟨k,i,none⟩ v = w.setRow k (cur.setIfInBounds i v):=by
 unfold World.setCell World.setRow
 refine congrArg (fun h=>({ w with heap:=h }:World)) ?_
 apply Array.ext_getElem?
 intro j
 rw [Array.getElem?_modify,Array.getElem?_modify]
 by_cases e:k = j
 ·subst e
  simp [h]
 ·simp [e]
def EH (T:TypeId) (a v:V):bF:=.row T 2 [.agg [a,v]]
theorem PM {bx:aa} {b:Nat} {a v:V} (hb:bx b = some (EH 122 a v)) (ha:a = .eD \/ a = .ptr b 2 0 0) :
 aw prog 95 [.ptr b 2 0 0] bx fun r bx'=>r = .dc [] /\ bx' = aB bx b (some (EH 122 (.ptr b 2 0 0) v)):=by
 unfold EH at hb ⊢
 refine ⟨enters_of func95 (by kernel_rfl) rfl,fun β M w vs c8 kN jz bO=>?_⟩
 have h0:=bO 0 _ rfl
 have D0:vs = #[vs.getD 0 undef]:=by
  apply Array.ext
  ·simpa using jz
  ·intro j g1 g2
   simp at jz g2
   subst g2
   simp [g1]
 generalize vs.getD 0 undef = u at h0 D0
 subst D0
 cases h0 with
 | ptr _ _ _ _ k bQ =>
   rcases c8.live b _ hb with ⟨h1,h2⟩ | ⟨k',h1,dr,hM,cur,fr,aU,iA,jj,au⟩
   ·simp [bF.empty] at h2
   ·rw [bQ] at h1
    injection h1 with h1
    injection h1 with h1
    subst h1
    obtain ⟨_,hr⟩:=au 0 _ rfl
    obtain ⟨o0,r0⟩:=hr 0 a rfl
    obtain ⟨o1,r1⟩:=hr 1 v rfl
    simp only [Nat.zero_mul,Nat.zero_add] at o0 r0 o1 r1
    have qv:2 <= cur.size:=by simpa using jj
    have bD:w.cell? ⟨k,0,none⟩ = some (cur.getD 0 undef):=by
     simp [World.cell?,aU,show 0 < cur.size by omega]
    have sb:w.frozen? ⟨k,0,none⟩ = false:=vA aU iA (by omega)
    rcases ha with rfl | rfl
    ·have e0:cur.getD 0 undef = .pointer none:=by
      generalize cur.getD 0 undef = c at r0
      cases r0; rfl
     rw [e0] at bD
     refine (BQ k cur.size w bD (bN aU) qv sb).mono ?_
     rintro e w' ⟨rfl,rfl⟩
     rw [As aU]
     obtain ⟨g1,g2⟩:=qz c8 hb bQ aU iA (cur.setIfInBounds 0 (.pointer (some ⟨k,0,none⟩))) (by simp) [.agg [.ptr b 2 0 0,v]] rfl (by simpa using qv) (by
      intro i e hi
      rcases i with _ | i
      ·simp at hi
       subst hi
       refine ⟨rfl,fun j c hj=>?_⟩
       rcases j with _ | _ | j
       ·simp [V.cells] at hj
        subst hj
        simp only [Nat.zero_mul,Nat.zero_add]
        have:(cur.setIfInBounds 0 (.pointer (some ⟨k,0,none⟩))).getD 0 undef = .pointer (some ⟨k,0,none⟩):=by simp [show 0 < cur.size by omega]
        rw [this]
        exact ⟨rfl,by simpa using aP.ptr b 2 0 0 k bQ⟩
       ·simp [V.cells] at hj
        subst hj
        simp only [Nat.zero_mul,Nat.zero_add]
        have:(cur.setIfInBounds 0 (.pointer (some ⟨k,0,none⟩))).getD 1 undef = cur.getD 1 undef:=by
         simp [Array.getD_eq_getD_getElem?]
        rw [this]
        exact ⟨o1,r1⟩
       ·simp [V.cells] at hj
      ·simp at hi)
     exact ⟨_,_,_,β,rfl,⟨rfl,rfl⟩,g1,g2,.dc [] #[] rfl (fun i c h=>by simp at h)⟩
    ·have e0:cur.getD 0 undef = .pointer (some ⟨k,0,none⟩):=by
      generalize cur.getD 0 undef = c at r0
      cases r0 with
      | ptr _ _ _ _ k2 hβ2 =>
        rw [bQ] at hβ2
        injection hβ2 with hβ2
        injection hβ2 with hβ2
        subst hβ2
        rfl
     rw [e0] at bD
     refine (EG k w bD).mono ?_
     rintro e w' ⟨rfl,rfl⟩
     have hs:aB bx b (some (.row 122 2 [.agg [.ptr b 2 0 0,v]])) = bx:=by
      funext c
      by_cases e:c = b
      ·subst e; rw [af,hb]
      ·rw [ae _ _ e]
     rw [hs]
     exact ⟨_,_,_,β,rfl,⟨rfl,rfl⟩,c8,Tr.refl _ _ _,.dc [] #[] rfl (fun i c h=>by simp at h)⟩
structure Ix (aD bx:aa) (b:Nat) (l:List UInt8):Prop where
 ex:∃ a v,(a = .eD \/ a = .ptr b 2 0 0) /\ bx b = some (EH 122 a v) /\ ((v = .aH /\ l = []) \/ ∃ bb,v = .own bb 1 0 l.length /\ bb ≠ b /\ aD bb = none /\ bx bb = some (.row 5 1 (l.map dN)))
 nb:aD b = none
 ext:Ext aD bx
 fin:ba bx
theorem Ix.start {bx:aa} {b:Nat} (hb:bx b = none) (hf:ba bx):Ix bx (aB bx b (some (.row 122 2 [.agg [.eD,.aH]]))) b [] :=
 ⟨⟨.eD,.aH,.inl rfl,af _ _ _,.inl ⟨rfl,rfl⟩⟩,hb,(Ext.refl _).new hb _,(an _ _ _).2 hf⟩
theorem Ix.next {aD bx:aa} {b:Nat} {l:List UInt8} (h:Ix aD bx b l) {bP:aa} {b':Nat} {l':List UInt8} {n:Nat} (hn:n = l'.length) (bB:b' ≠ b) (h0:aD b' = none) (hb:bP b = some (.row 122 2 [.agg [.ptr b 2 0 0,.own b' 1 0 n]])) (aR:bP b' = some (.row 5 1 (l'.map dN))) (he:Ext aD bP) (hf:ba bP):Ix aD bP b l':=by
 subst hn
 exact ⟨⟨_,_,.inr rfl,hb,.inr ⟨b',rfl,bB,h0,aR⟩⟩,h.nb,he,hf⟩
theorem vp {aD bx:aa} {b:Nat} {l:List UInt8} (h:Ix aD bx b l) (s:List UInt8) (hs:l.length + s.length <= 100000000) :
 aw prog 50 [.ptr b 2 0 0,.str s] bx fun r bx'=>r = .dc [.int .i64 s.length,.ir] /\ Ix aD bx' b (l ++ s):=by
 refine VR fun hf=>?_
 obtain ⟨a,v,ha,hb,hv⟩:=h.ex
 simp [go_sem,C50,hf]
 refine ar (PM hb ha) ?_
 rintro r bP ⟨rfl,rfl⟩
 unfold EH
 rcases hv with ⟨rfl,rfl⟩ | ⟨bb,rfl,bB,KB,ff⟩
 ·simp [go_sem,af,an,hf,da,bM,Gg,TV,FT,TW,TX]
  refine ⟨by omega,by omega,fun b' aR=>?_⟩
  have bB:b' ≠ b:=fun e=>by subst e; rw [af] at aR; cases aR
  have cz:bx b' = none:=by rw [ae _ _ bB] at aR; exact aR
  have h0:=h.ext.none cz
  simp [go_sem,af,ae,Ne.symm bB,bB,an,hf]
  refine aA (by simp [go_sem]) ⟨by simp [go_sem],h.next (b':=b') (l':=s) rfl bB h0 (by simp [go_sem,af]) (by simp [go_sem,ae _ _ bB,af]) (fun c hc=>?_) (by simp [an,hf])⟩
  have c1:c ≠ b:=fun e=>hc (by rw [e]; exact h.nb)
  have c2:c ≠ b':=fun e=>hc (by rw [e]; exact h0)
  simp only [ae _ _ c1,ae _ _ c2]
  exact h.ext c hc
 ·simp [go_sem,af,an,hf,ae,bB,Ne.symm bB,ff,da,bM,Gg,TV,FT,TW,TX]
  refine ⟨by omega,by omega,fun b' aR=>?_⟩
  have HO:b' ≠ b:=fun e=>by subst e; rw [ae _ _ (Ne.symm bB),af] at aR; cases aR
  have h0:aD b' = none:=by
   by_cases e:b' = bb
   ·rw [e]; exact KB
   ·rw [ae _ _ e,ae _ _ HO] at aR
    exact h.ext.none aR
  have L7:(l.map dN).take l.length = l.map dN:=by rw [List.take_of_length_le (by simp)]
  rw [L7,<- List.map_append]
  simp [go_sem,af,ae,Ne.symm HO,HO,bB,Ne.symm bB,an,hf]
  refine aA (by simp [go_sem]) ⟨by simp [go_sem],h.next (b':=b') (l':=l ++ s) (n:=l.length + s.length) (by simp) HO h0 (by simp [go_sem,af]) (by simp [go_sem,ae _ _ HO,af]) (fun c hc=>?_) (by simp [an,hf])⟩
  have c1:c ≠ b:=fun e=>hc (by rw [e]; exact h.nb)
  have c2:c ≠ b':=fun e=>hc (by rw [e]; exact h0)
  have c3:c ≠ bb:=fun e=>hc (by rw [e]; exact KB)
  simp only [ae _ _ c1,ae _ _ c2,ae _ _ c3]
  exact h.ext c hc
theorem XF (k g cap:Nat) (cur:Array Value) {fr:Nat × Nat} (l:List UInt8) (h0:l ≠ []) (w:World) (dm:w.cell? ⟨k,1,none⟩ = some (.slice (some ⟨g,0,none⟩) l.length cap)) (hg:w.heap[g]? = some (.cells cur 5 fr)) (aU:∀ (j:Nat) (x:UInt8),l[j]? = some x -> cur[j]? = some (.int .u8 x.toNat)) (hle:l.length <= cap) (gZ:cap <= maxLen) :
 Calls prog 52 #[.pointer (some ⟨k,0,none⟩)] w fun e w'=>e = .returned (.string ⟨l.toArray⟩) /\ w' = w.drew.freeze ⟨g,0,none⟩ l.length:=by
 have mixed:prog.follows .mixedOrders = true:=by kernel_rfl
 have Rp:l.length ≠ 0:=by simpa using h0
 have c1:w.drew.cell? ⟨k,1,none⟩ = some (.slice (some ⟨g,0,none⟩) l.length cap):=dm
 have hSD:(Builtin.unsafeSliceData_ #[120] 170 #[.slice (some ⟨g,0,none⟩) l.length cap]).run prog w.drew = .ok (.pointer (some ⟨g,0,none⟩)) w.drew :=
  Lib.run_unsafeSliceData_row _ _ _ _ _ _ (by omega)
 have hUS:(Builtin.unsafeString_ #[170,3] 9 #[.pointer (some ⟨g,0,none⟩),.int .i64 l.length]).run prog w.drew = .ok (.string ⟨l.toArray⟩) (w.drew.freeze ⟨g,0,none⟩ l.length):=by
  refine Lib.run_unsafeString_row w.drew 170 3 9 5 (by kernel_rfl) (by kernel_rfl) g cur.size (by have yA:w.drew.heap[g]? = some (.cells cur 5 fr):=hg; simp [World.shape?,yA]) l h0 ?_ (by unfold maxLen at gZ; omega) ?_
  ·rcases hx:l.length with _ | n
   ·omega
   ·have hn:n < l.length:=by omega
    have:=aU n _ (List.getElem?_eq_getElem hn)
    have:=(Array.getElem?_eq_some_iff.1 this).1
    omega
  ·intro j x hx
   have h2:=aU j x hx
   have e:(⟨g,0,none⟩:Addr).add j = ⟨g,j,none⟩:=by unfold Addr.add; by_cases h:j = 0 <;> simp [h]
   rw [e]
   show w.cell? ⟨g,j,none⟩ = _
   simp [World.cell?,hg,h2]
 go_enter func52,Tryz.ntmps52
 go_wp2
 go_region_o
 all_goals (go_wp2; go_ret; exact ⟨rfl,rfl⟩)
theorem KC {β:Beta} {M:dR} {w:World} {bx:aa} (h:er β M bx w) {b k:Nat} {ty:TypeId} {sz:Nat} {es:List V} (hb:bx b = some (.row ty sz es)) (bQ:β b = some (some k)) {cur:Array Value} {fr0:Nat × Nat} (aU:w.heap[k]? = some (.cells cur ty fr0)) (m:Nat) :
 er β M (aB bx b none) (w.freeze ⟨k,0,none⟩ m) /\ Tr β bx w β (aB bx b none) (w.freeze ⟨k,0,none⟩ m):=by
 obtain ⟨fr,jx,xd,bW⟩:∃ fr,(w.freeze ⟨k,0,none⟩ m).heap[k]? = some (.cells cur ty fr) /\ (∀ q,q ≠ k -> (w.freeze ⟨k,0,none⟩ m).heap[q]? = w.heap[q]?) /\ (w.freeze ⟨k,0,none⟩ m).heap.size = w.heap.size:=by
  unfold World.freeze
  split
  ·exact ⟨_,aU,fun _ _=>rfl,rfl⟩
  ·obtain ⟨lo,hi⟩:=fr0
   refine ⟨_,by simp only [Array.getElem?_modify,if_pos,aU,Option.map_some]; rfl,fun q hq=>?_,by simp⟩
   ·simp only [Array.getElem?_modify]
    rw [if_neg (Ne.symm hq)]
 have vz:(w.freeze ⟨k,0,none⟩ m).os = w.os /\ (w.freeze ⟨k,0,none⟩ m).tape = w.tape /\ (w.freeze ⟨k,0,none⟩ m).output = w.output /\ (w.freeze ⟨k,0,none⟩ m).drawn = w.drawn:=by
  unfold World.freeze; split <;> exact ⟨rfl,rfl,rfl,rfl⟩
 generalize w.freeze ⟨k,0,none⟩ m = w' at *
 have pD:=h.live b _ hb
 obtain ⟨dr,hM⟩:k < w.heap.size /\ M k = none:=by
  rcases pD with ⟨h1,_⟩ | ⟨k',h1,h2,h3,_⟩
  ·rw [bQ] at h1; cases h1
  ·rw [bQ] at h1; injection h1 with h1; injection h1 with h1; subst h1; exact ⟨h2,h3⟩
 have fc:∀ b',aB bx b none b' ≠ none -> bx b' ≠ none /\ b' ≠ b:=by
  intro b' aR
  by_cases e:b' = b
  ·subst e; simp [af] at aR
  ·rw [ae _ _ e] at aR; exact ⟨aR,e⟩
 have hs:∀ q x,w.shape? q = some x -> w'.shape? q = some x:=by
  intro q x hx
  by_cases e:q = k
  ·subst e; rw [bN jx,<- bN aU]; exact hx
  ·rw [bI (xd q e)]; exact hx
 have ht:Tr β bx w β (aB bx b none) w' :=
  ⟨vz.1,vz.2.1,vz.2.2.1,fun _=>by rw [vz.2.2.2]; exact Nat.le_refl _,fun hm=>Mk.kA hm (fun _ h=>by cases h),by omega,fun q h1 h2=>xd q (by rintro rfl; exact h2 b (by rw [hb]; simp) bQ),hs,fun _ _ h=>h,fun b' q h1 h2=>.inl ⟨b',(fc b' h1).1,h2⟩⟩
 refine ⟨⟨h.fin,fun q y hq=>(xd q (by rintro rfl; rw [hM] at hq; cases hq)).trans (h.mlt q y hq),fun b' box' aR=>?_,fun b1 b2 q h1 h2 h3 h4=>h.inj b1 b2 q (fc _ h1).1 (fc _ h2).1 h3 h4⟩,ht⟩
 have bB:=(fc b' (by rw [aR]; simp)).2
 rw [ae _ _ bB] at aR
 rcases h.live b' box' aR with h1 | ⟨k',h1,h2,h3,h4⟩
 ·exact .inl h1
 ·have e:k' ≠ k:=by rintro rfl; exact bB (h.inj b' b k' (by rw [aR]; simp) (by rw [hb]; simp) h1 bQ)
  exact .inr ⟨k',h1,by omega,h3,bn h4 (xd k' e) (fun _ _ h=>h) (fun _ hk=>ht.fz hk) ht.shape⟩
theorem HP {aD bx:aa} {b:Nat} {l:List UInt8} (h:Ix aD bx b l) (h0:l ≠ []) :
 aw prog 52 [.ptr b 2 0 0] bx fun r bx'=>r = .str l /\ Ext aD bx' /\ ba bx':=by
 obtain ⟨a,v,ha,hb,hv⟩:=h.ex
 unfold EH at hb
 rcases hv with ⟨_,e⟩ | ⟨bb,rfl,bB,KB,ff⟩
 ·exact absurd e h0
 refine ⟨enters_of func52 (by kernel_rfl) rfl,fun β M w vs c8 kN jz bO=>?_⟩
 have r0:=bO 0 _ rfl
 have D0:vs = #[vs.getD 0 undef]:=by
  apply Array.ext
  ·simpa using jz
  ·intro j g1 g2
   simp at jz g2
   subst g2
   simp [g1]
 generalize vs.getD 0 undef = u at r0 D0
 subst D0
 cases r0 with
 | ptr _ _ _ _ k bQ =>
   rcases c8.live b _ hb with ⟨h1,h2⟩ | ⟨k',h1,dr,hM,cur,fr,aU,iA,jj,au⟩
   ·simp [bF.empty] at h2
   rw [bQ] at h1
   injection h1 with h1
   injection h1 with h1
   subst h1
   obtain ⟨_,hr⟩:=au 0 _ rfl
   obtain ⟨o1,r1⟩:=hr 1 _ rfl
   simp only [Nat.zero_mul,Nat.zero_add] at o1 r1
   have qv:2 <= cur.size:=by simpa using jj
   have bD:w.cell? ⟨k,1,none⟩ = some (cur.getD 1 undef):=by
    simp [World.cell?,aU,show 1 < cur.size by omega]
   generalize cur.getD 1 undef = c1 at r1 bD
   rcases c8.live bb _ ff with ⟨_,g2⟩ | ⟨g,g1,glt,gM,gcur,gfr,ghcur,ghfr,gcl,grow⟩
   ·simp [bF.empty] at g2; exact absurd g2 h0
   have eJ:l.length ≠ 0:=by simpa using h0
   generalize hn:l.length = n at r1
   cases r1 with
   | mi _ _ hβ2=>omega
   | own _ _ _ _ g2 cap m ty hβ2 hs hm si gZ =>
     rw [g1] at hβ2
     injection hβ2 with hβ2
     injection hβ2 with hβ2
     subst hβ2
     subst hn
     have PN:∀ (j:Nat) (x:UInt8),l[j]? = some x -> gcur[j]? = some (.int .u8 x.toNat):=by
      intro j x hx
      obtain ⟨_,hrj⟩:=grow j (dN x) (by simp [hx])
      obtain ⟨_,h3⟩:=hrj 0 _ rfl
      simp only [Nat.mul_one,Nat.add_zero] at h3
      have h4:=h3.bE
      have hj:j < gcur.size:=by
       have:=(List.getElem?_eq_some_iff.1 hx).1
       simp at gcl
       omega
      rw [Array.getD_eq_getD_getElem?,Array.getElem?_eq_getElem hj] at h4
      rw [Array.getElem?_eq_getElem hj]
      exact congrArg some h4
     refine (XF k g cap gcur l h0 w (by simpa using bD) ghcur PN si (by simpa using gZ)).mono ?_
     rintro e w' ⟨rfl,rfl⟩
     obtain ⟨g3,g4⟩:=KC c8.drew ff g1 (show w.drew.heap[g]? = _ from ghcur) l.length
     refine ⟨_,_,_,β,rfl,⟨rfl,fun c hc=>?_,(an _ _ _).2 h.fin⟩,g3,(Tr.drew c8).trans g4,sD _⟩
     rw [ae _ _ (fun e=>hc (by rw [e]; exact KB))]
     exact h.ext c hc
theorem XG (k:Nat) (w:World) (dm:w.cell? ⟨k,1,none⟩ = some (.slice none 0 0)) :
 Calls prog 52 #[.pointer (some ⟨k,0,none⟩)] w fun e w'=>e = .returned (.string .empty) /\ w' = w.drew:=by
 have mixed:prog.follows .mixedOrders = true:=by kernel_rfl
 have c1:w.drew.cell? ⟨k,1,none⟩ = some (.slice none 0 0):=dm
 have hSD:(Builtin.unsafeSliceData_ #[120] 170 #[.slice none 0 0]).run prog w.drew = .ok (.pointer none) w.drew:=Lib.run_unsafeSliceData_nil _ _ _ _ _
 have hUS:(Builtin.unsafeString_ #[170,3] 9 #[.pointer none,.int .i64 0]).run prog w.drew = .ok (.string .empty) w.drew:=Lib.run_unsafeString_none _ _ _ _ _
 go_enter func52,Tryz.ntmps52
 go_wp2
 go_region_o
 all_goals (go_wp2; go_ret; exact ⟨rfl,rfl⟩)
theorem HQ {bx:aa} {b:Nat} {a:V} (hb:bx b = some (.row 122 2 [.agg [a,.aH]])) :
 aw prog 52 [.ptr b 2 0 0] bx fun r bx'=>r = .str [] /\ bx' = bx:=by
 refine ⟨enters_of func52 (by kernel_rfl) rfl,fun β M w vs c8 kN jz bO=>?_⟩
 have r0:=bO 0 _ rfl
 have D0:vs = #[vs.getD 0 undef]:=by
  apply Array.ext
  ·simpa using jz
  ·intro j g1 g2
   simp at jz g2
   subst g2
   simp [g1]
 generalize vs.getD 0 undef = u at r0 D0
 subst D0
 cases r0 with
 | ptr _ _ _ _ k bQ =>
   rcases c8.live b _ hb with ⟨h1,h2⟩ | ⟨k',h1,dr,hM,cur,fr,aU,iA,jj,au⟩
   ·simp [bF.empty] at h2
   rw [bQ] at h1
   injection h1 with h1
   injection h1 with h1
   subst h1
   obtain ⟨_,hr⟩:=au 0 _ rfl
   obtain ⟨o1,r1⟩:=hr 1 _ rfl
   simp only [Nat.zero_mul,Nat.zero_add] at o1 r1
   have qv:2 <= cur.size:=by simpa using jj
   have bD:w.cell? ⟨k,1,none⟩ = some (cur.getD 1 undef):=by
    simp [World.cell?,aU,show 1 < cur.size by omega]
   generalize cur.getD 1 undef = c1 at r1 bD
   cases r1
   refine (XG k w (by simpa using bD)).mono ?_
   rintro e w' ⟨rfl,rfl⟩
   exact ⟨_,_,_,β,rfl,⟨rfl,rfl⟩,c8.drew,Tr.drew c8,sD []⟩
theorem HR {P:Program} {β:Beta} {w:World} {F:Nat -> Prop} (h:p3 P β w F) {g:Nat} {name:String} {k:IntKind} {zs:List Int} (hg:P.globalNamed name = some g) (hv:Ma P g = .ep (.agg (zs.map (.int k))) 0):Lib.TabIs P w name k zs:=by
 obtain ⟨h1,h2⟩:=h g
 obtain ⟨b,_,tyg,LU⟩:=h2 _ hv
 rw [hv] at h1
 simp only [List.length_map] at LU
 generalize hp:Value.pointer (some ⟨g,0,none⟩) = p at h1
 cases h1 with
 | ep e o a u hc hr =>
  injection hp with hp
  injection hp with hp
  have ha:a = ⟨g,0,none⟩:=by
   rw [hp]
   unfold Addr.add
   obtain ⟨ab,ao,av⟩:=a
   cases av <;> simp
  subst ha
  simp only [V.cells] at hc hr
  unfold World.shape? at LU
  unfold Lib.TabIs World.var?
  rw [hg]
  simp only [Option.bind_some]
  cases hh:w.heap[g]? with
  | none=>rw [hh] at LU; cases LU
  | some o =>
    rw [hh] at LU
    cases o with
    | cells cur mj fr =>
      simp only [Option.some.injEq,Prod.mk.injEq] at LU ⊢
      obtain ⟨_,bW⟩:=LU
      apply Array.ext
      ·simp [bW]
      ·intro j h1 h2
       have hj:j < zs.length:=by omega
       have Ay:(zs.map (V.int k))[j]? = some (.int k zs[j]):=by simp [hj]
       obtain ⟨a',fI,_,bD,_⟩:=hc j _ Ay
       injection fI with fI
       subst fI
       have hrj:=(hr j _ Ay).bE
       rw [hrj] at bD
       have aU:cur[j]? = some (.int k zs[j]):=by
        have e:(⟨g,0,none⟩:Addr).add j = ⟨g,j,none⟩:=by unfold Addr.add; by_cases h:j = 0 <;> simp [h]
        rw [e] at bD
        simp only [World.cell?,hh] at bD
        simpa using bD
       have:cur[j] = .int k zs[j]:=by
        rw [Array.getElem?_eq_getElem h1] at aU
        exact Option.some.inj aU
       rw [this]
       simp
    | _=>simp at LU
theorem At (n:Int) (h0:-9223372036854775808 <= n) (h1:n <= 9223372036854775807) (bx:aa):ay prog 96 [.int .i64 n,.int .i64 10] bx (.str (Lib.itoa n)):=by
 refine ⟨enters_of func96 (by kernel_rfl) rfl,fun β M w vs c8 kN jz bO=>?_⟩
 have e0:vs.getD 0 undef = .int .i64 n:=(bO 0 _ rfl).bE
 have e1:vs.getD 1 undef = .int .i64 10:=(bO 1 _ rfl).bE
 have hv:vs = #[.int .i64 n,.int .i64 10]:=by
  apply Array.ext
  ·simpa using jz
  ·intro j g1 g2
   simp at jz
   have:j = 0 \/ j = 1:=by omega
   rcases this with rfl | rfl
   ·rw [<- e0]; simp [g1]
   ·rw [<- e1]; simp [g1]
 subst hv
 refine (Go.Proofs.Any.strconv_FormatInt_10 XD n h0 h1 w (HR kN (g:=2) (by kernel_rfl) (by kernel_rfl))).mono ?_
 rintro e w' ⟨rfl,k,os,rfl⟩
 have hk:∀ q,q < w.heap.size -> (Go.Sort.grow (w.drewN k) os).heap[q]? = w.heap[q]?:=fun q hq=>by
  show (w.heap ++ os)[q]? = _
  rw [Array.getElem?_append_left hq]
 have bW:w.heap.size <= (Go.Sort.grow (w.drewN k) os).heap.size:=by
  show w.heap.size <= (w.heap ++ os).size
  simp
 exact ⟨_,_,bx,β,rfl,⟨rfl,rfl⟩,c8.grown bW c8.fin (fun _ _ h=>h) hk,Tr.grown c8 rfl rfl rfl (Nat.le_add_right w.drawn k) bW (fun _ _ h=>h) hk,sD _⟩
theorem HS (n:Int) (h0:-9223372036854775808 <= n) (h1:n <= 9223372036854775807) (bx:aa):ay prog 51 [.int .i64 n] bx (.str (Lib.itoa n)):=by
 refine VS fun hf=>?_
 simp [go_sem,C51,hf]
 refine ah (At n h0 h1 bx) ?_
 simp [go_sem,hf]
 exact aA (by simp [go_sem]) ⟨by simp [go_sem],rfl⟩
end Go.Proofs
namespace Go.Pl
open Go
theorem aw.aek {P:Program} {f:FuncId} {args:List V} {bx:aa} {Kc K2:V -> aa -> Prop} (h:aw P f args bx Kc) (hs:∀ r bx',Kc r bx' -> ∃ bx2 d,bX bx' bx2 /\ K2 (Go.Pl.cK bx' bx2 d r) bx2):aw P f args bx K2:=by
 refine ⟨h.1,fun β M w vs h1 h2 h3 h4=>(h.2 β M w vs h1 h2 h3 h4).mono ?_⟩
 rintro e w' ⟨v,r,bx',β',rfl,hk,c8,ht,bO⟩
 obtain ⟨bx2,d,nA,fJ⟩:=hs r bx' hk
 exact ⟨v,_,bx2,β',rfl,fJ,c8.sub nA,ht.trans nA.tr,l4 c8 nA d _ _ bO⟩
end Go.Pl
namespace Go.Proofs
open Go Go.Pl Go.RowKit Go.Shelf Tryz
theorem ael:Ma prog 0 = .ep (.agg (Lib.asciiSpaceTab.map (.int .u8))) 0:=by kernel_rfl
theorem XH:prog.globalNamed "strings.asciiSpace" = some 0:=by kernel_rfl
theorem hi9:(prog.info? 9).map (fun i=>(i.zero,i.size,i.bytes)) = some (some (.string ByteArray.empty),1,16):=by kernel_rfl
theorem HT (s:List UInt8) (hs:s.length < 4294967281) (hascii:∀ b,b ∈ s -> b.toNat < 128) (bx:aa):aw prog 49 [.str s] bx fun r bx'=>∃ b,bx b = none /\ r = .own b 1 0 (Lib.fields s).length /\ bx' = aB bx b (some (.row 9 1 ((Lib.fields s).map .str))):=by
 refine ⟨enters_of func49 (by kernel_rfl) rfl,fun β M w vs c8 kN jz bO=>?_⟩
 have h0:=bO 0 _ rfl
 have D0:vs = #[vs.getD 0 undef]:=by
  apply Array.ext
  ·simpa using jz
  ·intro j g1 g2
   simp at jz g2
   subst g2
   simp [g1]
 generalize vs.getD 0 undef = u at h0 D0
 subst D0
 obtain ⟨x,rfl,hx⟩:=h0.eg
 have RG:x.size = s.length:=by rw [<- hx]; rfl
 refine (Any.strings_Fields aej hi9 XH x w (by omega) (fun j b hb=>hascii b (by rw [<- hx]; exact List.mem_of_getElem? hb)) (HR kN XH ael)).mono ?_
 rintro e w' ⟨rfl,rfl⟩
 rw [hx]
 obtain ⟨b',eK,cz⟩:=c8.fresh
 obtain ⟨cur,aU⟩:∃ cur,(((Lib.fields s).map fun l=>Value.string ⟨l.toArray⟩).toArray) = cur:=⟨_,rfl⟩
 have hlen:cur.size = (Lib.fields s).length:=by rw [<- aU]; simp
 have pY:(Lib.fields s).length <= s.length:=by
  have h1:=Lib.fields_length s
  have h2:∀ (l:List UInt8) (w:Bool),Lib.cntF w l <= l.length:=by
   intro l
   induction l with
   | nil=>intro w; simp [Lib.cntF]
   | cons a l ih =>
     intro w
     rw [Lib.cntF_step]
     have:=ih (Lib.isSp a)
     simp only [List.length_cons]
     split <;> omega
  rw [h1]; exact h2 s true
 have Rg:∀ (i:Nat) (f:List UInt8),(Lib.fields s)[i]? = some f -> cur.getD (i * 1 + 0) undef = Value.string ⟨f.toArray⟩:=fun i f hf=>by
  rw [Array.getD_eq_getD_getElem?,<- aU]
  simp [hf]
 rw [show (Go.Shelf.Ren.t Ar 9) = 9 from rfl,aU]
 clear aU
 obtain ⟨L,hL⟩:∃ L,Lib.fields s = L:=⟨_,rfl⟩
 rw [hL] at hlen pY Rg ⊢
 obtain ⟨h5,h6⟩:=v7 c8 eK cz cur 9 1 (L.map .str) (.inl (by decide)) (by rw [hlen]; simp) (fun i e he=>by
  rw [List.getElem?_map,Option.map_eq_some_iff] at he
  obtain ⟨f,hf,rfl⟩:=he
  refine ⟨rfl,fun j c hj=>?_⟩
  rcases j with _ | j
  ·simp only [V.cells,List.getElem?_cons_zero,Option.some.injEq] at hj
   subst hj
   rw [Rg i f hf]
   exact ⟨rfl,sD f⟩
  ·simp [V.cells] at hj)
 have vr:(w.alloc (.cells cur 9)).shape? w.heap.size = some (9,L.length):=by
  have hh:(w.alloc (.cells cur 9)).heap[w.heap.size]? = some (.cells cur 9 (0,0)):=by
   show (w.heap.push _)[w.heap.size]? = _
   exact Array.getElem?_push_size
  rw [bN hh,hlen]
 refine ⟨_,_,_,_,rfl,⟨b',cz,rfl,rfl⟩,h5,h6,?_⟩
 exact aP.own b' 1 0 L.length w.heap.size L.length L.length 9 (af _ _ _) vr (by omega) (Nat.le_refl _) (by unfold maxLen; omega)
theorem HU (s:List UInt8) (hs:s.length < 4294967281) (hascii:∀ b,b ∈ s -> b.toNat < 128) (bx:aa):ay prog 49 [.str s] bx (.sl 1 ((Lib.fields s).map .str)):=by
 refine (HT s hs hascii bx).aek ?_
 rintro r bx' ⟨b',aR,rfl,rfl⟩
 refine ⟨bx,1,(((Ext.refl bx).aJ aR _).sub),?_,rfl⟩
 exact fe (af _ _ _) aR (by decide) (by simp)
def HV:List UInt8:=List.append [116,119,105,99,101,32,109,97,110,121,32,113,117,101,117,101,32,99,108,111,115,101,100,32,111,108,100,32,102,111,114,101,105,103,110,32,100,111,119] [110,32,112,114,111,98,101,32,111,118,101,114,116,97,107,101,32,114,101,112,101,97,116,32,108,101,102,116,32,98,97,99,107,32,115,116,114,97,121]
def pq:List (List UInt8):=[[116,119,105,99,101],[109,97,110,121],[113,117,101,117,101],[99,108,111,115,101,100],[111,108,100],[102,111,114,101,105,103,110],[100,111,119,110],[112,114,111,98,101],[111,118,101,114,116,97,107,101],[114,101,112,101,97,116],[108,101,102,116],[98,97,99,107],[115,116,114,97,121]]
theorem y6:Lib.fields HV = pq:=by decide
def lW (f:Int × Int):List UInt8:=Lib.itoa f.2 ++ 32 :: (pq.getD (f.1 - 1).toNat [] ++ [10])
def jw (l:List (Int × Int)):List UInt8 × Int:=if l.any (fun f=>decide (f.1 < 1) || decide (13 < f.1)) then ([],2) else (l.flatMap lW,0)
def inR (f:Int × Int):Prop:=(-9223372036854775808 <= f.1 /\ f.1 <= 9223372036854775807) /\ -9223372036854775808 <= f.2 /\ f.2 <= 9223372036854775807
theorem nN {bx:aa} {b:Nat} (hb:bx b = none):aB bx b none = bx:=by
 funext c
 by_cases e:c = b
 ·rw [e,af,hb]
 ·rw [ae _ _ e]
theorem uK (n:Nat):(pq.getD n []).length <= 9:=by
 rcases Nat.lt_or_ge n 13 with h | h
 ·have:∀ m:Fin 13,(pq.getD m.val []).length <= 9:=by decide
  exact this ⟨n,h⟩
 ·rw [List.getD_eq_getElem?_getD,List.getElem?_eq_none (by simpa [pq] using h)]; simp
theorem wC (f:Int × Int) (h:inR f):(lW f).length <= 40:=by
 unfold lW
 have h1:=Lib.itoa_length_le f.2 h.2.1 h.2.2
 have h2:=uK (f.1 - 1).toNat
 simp only [List.length_append,List.length_cons,List.length_nil]
 omega
theorem EI (l:List (Int × Int)) (h:∀ f,f ∈ l -> inR f):(l.flatMap lW).length <= 40 * l.length:=by
 induction l with
 | nil=>simp
 | cons f l ih =>
   have h1:=wC f (h f (by simp))
   have h2:=ih fun g hg=>h g (by simp [hg])
   rw [List.flatMap_cons,List.length_append,List.length_cons]
   omega
theorem KD (l:List (Int × Int)) (hl:l.length <= 1000) (hr:∀ f,f ∈ l -> inR f) (bx:aa):ay prog 24 [.sl 2 (l.map bH)] bx (.dc [.str (jw l).1,iI (jw l).2]):=by
 obtain ⟨Kc,eZ⟩:∃ Kc:V -> aa -> Prop,Kc = fun r bx'=>r = .dc [.str (jw l).1,iI (jw l).2] /\ bx' = bx:=⟨_,rfl⟩
 show aw _ _ _ _ (fun r bx'=>r = .dc [.str (jw l).1,iI (jw l).2] /\ bx' = bx)
 rw [<- eZ]
 refine V9 fun hf=>?_
 have cF:=fun bx'=>HU HV (by decide) (by decide) bx'
 rw [y6] at cF
 simp [go_sem,C24,hf]
 intro b hb
 refine ah (cF _) ?_
 have hB:=Ix.start hb hf
 have hsb:aB bx b (some (bF.row 122 2 [V.agg [V.eD,V.aH]])) b = some (bF.row 122 2 [V.agg [V.eD,V.aH]]):=af _ _ _
 generalize aB bx b (some (bF.row 122 2 [V.agg [V.eD,V.aH]])) = bP at *
 obtain ⟨NL,hNL⟩:∃ NL,pq = NL:=⟨_,rfl⟩
 have hNl:NL.length = 13:=by rw [<- hNL]; rfl
 rw [hNL]
 simp [go_sem,hB.fin]
 refine iM (ι:=aa) l.length (fun k bx2=>Ix bx bx2 b ((l.take k).flatMap lW) /\ (k = 0 -> bx2 = bP) /\ ∀ j (hj:j < l.length),j < k -> ¬ (l[j].1 < 1 \/ 13 < l[j].1)) (fun k bx2=>⟨40,bR [(4,.ptr b 2 0 0),(5,.sl 1 (NL.map .str)),(9,.sl 2 (l.map bH)),(10,.int .i64 l.length),(11,.int .i64 k)],bx2⟩) bP ⟨hB,fun _=>rfl,fun j hj h=>absurd h (Nat.not_lt_zero _)⟩ (ak (by simp [go_sem])) (fun k bx2 hk hJ N hN=>?_) (fun bx2 hJ N=>?_)
 ·obtain ⟨CM,_,gr⟩:=hJ
  have hw:=bj (k:=k) (by omega)
  have cm:=CM.fin
  have Au:=hr l[k] (List.getElem_mem hk)
  have dr:=EI (l.take k) fun f hf=>hr f (List.mem_of_mem_take hf)
  rw [List.length_take] at dr
  simp [go_sem,Gq,hk,cm,bH,iI,hNl]
  intro b7 Ey
  rw [nN Ey]
  refine ⟨fun h1=>?_,fun h1 h2=>?_⟩
  ·have hz:jw l = ([],2):=by
    unfold jw
    rw [if_pos (List.any_eq_true.2 ⟨l[k],List.getElem_mem hk,by simpa using h1⟩)]
   refine bp (by simp [go_sem]) CM.ext ?_
   rw [eZ,hz]
   exact ⟨by simp [go_sem,iI],rfl⟩
  ·refine ah (HS l[k].2 Au.2.1 Au.2.2 _) ?_
   obtain ⟨m,hm,aem⟩:∃ m:Nat,l[k].1 = (m:Int) + 1 /\ m < 13:=⟨(l[k].1 - 1).toNat,by omega,by omega⟩
   have ja:IntKind.i64.wrap (l[k].1 - 1) = (m:Int):=by rw [gN (by omega)]; omega
   have hg:NL[m]? = some (NL.getD m []):=by rw [List.getD_eq_getElem?_getD,List.getElem?_eq_getElem (by omega)]; rfl
   have y7:=Lib.itoa_length_le l[k].2 Au.2.1 Au.2.2
   have mf:(NL[m]'(by omega)).length <= 9:=by
    have:=uK m
    rw [hNL,List.getD_eq_getElem?_getD,List.getElem?_eq_getElem (by omega)] at this
    exact this
   have LV:lW l[k] = Lib.itoa l[k].2 ++ 32 :: (NL[m]'(by omega) ++ [10]):=by
    unfold lW
    rw [hNL,show (l[k].1 - 1).toNat = m by omega,List.getD_eq_getElem?_getD,List.getElem?_eq_getElem (show m < NL.length by omega)]
    rfl
   have Rx:=vp CM (lW l[k]) (by have:=wC l[k] Au; omega)
   rw [LV] at Rx
   simp [go_sem,cm,ja,aem,hNl,hg]
   refine ⟨by omega,by omega,by omega,by omega,ar Rx ?_⟩
   rintro r bx3 ⟨rfl,hB3⟩
   rw [<- LV] at hB3
   simp [go_sem,hB3.fin,hw]
   refine hN _ bx3 ⟨?_,fun h=>by omega,fun j hj AO=>?_⟩ (ak (by simp [go_sem]))
   ·rw [List.take_succ_eq_append_getElem hk,List.flatMap_append]
    simpa using hB3
   ·rcases Nat.lt_or_ge j k with h | h
    ·exact gr j hj h
    ·have:j = k:=by omega
     subst this
     omega
 ·obtain ⟨CM,h0,gr⟩:=hJ
  have cm:=CM.fin
  rw [List.take_of_length_le (Nat.le_refl _)] at CM
  have hz:jw l = (l.flatMap lW,0):=by
   unfold jw
   rw [if_neg]
   intro h
   obtain ⟨f,bg,cm⟩:=List.any_eq_true.1 h
   obtain ⟨j,hj,rfl⟩:=List.getElem_of_mem bg
   exact gr j hj hj (by simpa using cm)
  simp [go_sem,Gq,cm]
  by_cases Rp:l.length = 0
  ·have Ct:l = []:=List.length_eq_zero_iff.1 Rp
   rw [h0 Rp] at CM ⊢
   refine ar (HQ hsb) ?_
   rintro r bx' ⟨rfl,rfl⟩
   simp [go_sem,CM.fin]
   refine bp (by simp [go_sem]) CM.ext ?_
   rw [eZ,hz,Ct]
   exact ⟨by simp [go_sem,iI],rfl⟩
  ·have bB:l.flatMap lW ≠ []:=by
    cases l with
    | nil=>simp at Rp
    | cons f l=>rw [List.flatMap_cons]; unfold lW; simp
   refine ar (HP CM bB) ?_
   rintro r bx' ⟨rfl,he,JW⟩
   simp [go_sem,JW]
   refine bp (by simp [go_sem]) he ?_
   rw [eZ,hz]
   exact ⟨by simp [go_sem,iI],rfl⟩
end Go.Proofs
namespace Go.Proofs
open Go Go.Pl Tryz
theorem LW (L:List eR) (most:Int) (l m:List Ex) (hl:l.length + m.length <= 100000) {bx:aa} {bm:Nat} (Iv:bx bm = some (.row 69 8 (m.map ey))) {n:Nat} (hn:n = m.length):ay prog 32 [ck L most l,.own bm 8 0 n] bx (ck L most (l ++ m)):=by
 subst hn
 refine ay.wk ?_
 refine VB fun hf=>?_
 simp [go_sem,C32,hf,ck]
 intro b0 h0 b1 h1 b2 h2
 have n01:b0 ≠ b1:=by rintro rfl; simp [af] at h1
 have n12:b1 ≠ b2:=by rintro rfl; simp [af] at h2
 have n02:b0 ≠ b2:=by rintro rfl; simp [af,ae _ _ n01] at h2
 have qu:bx b1 = none:=by rwa [ae _ _ n01.symm] at h1
 have LS:bx b2 = none:=by rwa [ae _ _ n12.symm,ae _ _ n02.symm] at h2
 simp [go_sem,af,ae _ _ n01,ae _ _ n02]
 obtain ⟨bx3,jA⟩:∃ bx3,aB (aB (aB bx b0 (some (bF.row 25 3 [V.agg [V.sl 4 (L.map bG),iI most,V.sl 8 (l.map ey)]]))) b1 (some (bF.row 25 3 [V.agg [V.aH,V.int .i64 0,V.aH]]))) b2 (some (bF.row 69 8 [])) = bx3:=⟨_,rfl⟩
 have ho:aY bx3 69 8 [] (.own b2 8 0 0):=.inr ⟨b2,rfl,by rw [<- jA,af]⟩
 have hn:kg bx (.own b2 8 0 0):=fun b sz o m e=>by injection e with e; rw [<- e]; exact LS
 have lU:ba bx3:=by rw [<- jA]; exact (an _ _ _).2 ((an _ _ _).2 ((an _ _ _).2 hf))
 have sN:Ext bx bx3:=by rw [<- jA]; exact (((Ext.refl bx).aJ h0 _).aJ qu _).aJ LS _
 have r0:bx3 b0 = some (bF.row 25 3 [V.agg [V.sl 4 (L.map bG),iI most,V.sl 8 (l.map ey)]]):=by rw [<- jA,ae _ _ n02,ae _ _ n01,af]
 have r1:bx3 b1 = some (bF.row 25 3 [V.agg [V.aH,V.int .i64 0,V.aH]]):=by rw [<- jA,ae _ _ n12,af]
 rw [jA]
 clear jA h1 h2
 refine dx (.agg #[.int .i64 0,.int .i64 0,.int .i64 0,.int .i64 0,.int .i64 0,.int .i64 0,.int .i64 0,.bool false]) ho lU (news:=l.map ey) r9 qa (by simp [bM]) lD (by simp [go_sem]) (by decide) (by simp [tS]; omega) (by simp; omega) (by simp [go_sem]) fun v4 bx4 ha4 hm4 _=>?_
 obtain ⟨x4,n4⟩:=hm4.base sN hn
 have s0:=(hm4.other (by rw [r0]; simp) (fun sz o m e=>by injection e with e; exact n02 e.symm)).trans r0
 have s1:=(hm4.other (by rw [r1]; simp) (fun sz o m e=>by injection e with e; exact n12 e.symm)).trans r1
 have lI:=hm4.fin
 clear ho hn hm4 r0 r1 lU sN
 rw [List.nil_append] at ha4
 simp [go_sem,lI,ha4.strip,ha4.live,ha4.cells,ha4.okV]
 have sm:=(x4 bm (by rw [Iv]; simp)).trans Iv
 have nv0:=ha4.ne s0 (by decide)
 have nv1:=ha4.ne s1 (by decide)
 refine dx (.agg #[.int .i64 0,.int .i64 0,.int .i64 0,.int .i64 0,.int .i64 0,.int .i64 0,.int .i64 0,.bool false]) ha4 lI (news:=m.map ey) r9 qa (by simp [bM,sm]; rw [List.take_of_length_le (by simp)]) lD (by simp [go_sem]) (by decide) (by simp [tS]; omega) (by simp; omega) (by simp [go_sem]) fun v5 jt uO hm5 _=>?_
 obtain ⟨x5,n5⟩:=hm5.base x4 n4
 have u0:=(hm5.other (by rw [s0]; simp) nv0).trans s0
 have u1:=(hm5.other (by rw [s1]; simp) nv1).trans s1
 have nG:=hm5.fin
 simp [go_sem,nG,uO.strip,uO.live,uO.cells,uO.okV,u0,u1,af,ae _ _ n01.symm,an]
 have Iw:=(uO.put u0 (by decide) (some (bF.row 25 3 [V.agg [V.sl 4 (L.map bG),iI most,v5]])))
 have ha7:=(Iw.put (p:=b1) (by rw [ae _ _ n01.symm]; exact u1) (by decide) (some (bF.row 25 3 [V.agg [V.sl 4 (L.map bG),iI most,v5]])))
 refine fw 2 (by simp [go_sem,af,uO.live,uO.okV]) ((x5.aJ h0 _).aJ qu _) ?_
 refine ⟨?_,rfl⟩
 have e5:∀ bb:aa,aY bb 69 8 (l.map ey ++ m.map ey) v5 -> Wk (cK bb bx 1 v5) (.sl 8 (l.map ey ++ m.map ey)):=fun bb hb=>by
  rcases hb with ⟨h0,rfl⟩ | ⟨b3,rfl,nU⟩
  ·rw [h0]; exact pW 8
  ·rw [fe nU (n5 _ _ _ _ rfl) (by decide) rfl]; exact Wk.refl _
 have e6:=e5 _ ha7
 simp [go_sem,af,cK,uO.strip]
 refine Cr rfl fun i c d hc hd=>?_
 rcases i with _ | _ | _ | i
 ·injection hc with hc; injection hd with hd; rw [<- hc,<- hd]; exact Wk.refl _
 ·injection hc with hc; injection hd with hd; rw [<- hc,<- hd]; exact Wk.refl _
 ·injection hc with hc; injection hd with hd; rw [<- hc,<- hd]; exact e6
 ·cases hc
instance (e:Ex):Decidable (NE e):=inferInstanceAs (Decidable (_ = _))
theorem LX:∀ e,e ∈ BM -> NE e:=by decide
theorem KE:∀ e,e ∈ uB -> NE e:=by decide
theorem KF:∀ e,e ∈ uC -> NE e:=by decide
theorem KG:ga yG 1 BM = ([],0):=by decide
theorem HW:y5 yG 1 BM = ([⟨7,0,1,2,-1,20,30⟩],0):=by decide
theorem EJ:ga yG 1 uB = ([(5,10)],0):=by decide
theorem HX:jw [(11,2)] = ([50,32,108,101,102,116,10],0):=by
 have h:Lib.itoa 2 = [50]:=by unfold Lib.itoa; rw [if_neg (by omega),Lib.decDigits_one (by omega)]; rfl
 unfold jw
 simp [lW,h,pq]
theorem KH (bx:aa):ay prog 12 [] bx (.bool true):=by
 have cE:=fun bx'=>EC bx'
 have cF:=fun bx'=>BG yG 1 BM (by decide) (by decide) LX bx'
 rw [KG] at cF
 have cL:=fun bx'=>Kz yG 1 BM (by decide) (by decide) LX bx'
 rw [HW] at cL
 have cG:=fun bx'=>BG yG 1 uB (by decide) (by decide) KE bx'
 rw [EJ] at cG
 have cC:=fun bx'=>LR yG 1 uC (by decide) (by decide) KF bx'
 rw [ex5] at cC
 have cP:=fun bx'=>KD [(11,2)] (by decide) (by intro f hf; simp at hf; subst hf; exact ⟨by decide,by decide⟩) bx'
 rw [HX] at cP
 have cV:=fun bx'=>K0 [⟨7,0,1,2,-1,20,30⟩] [⟨7,0,1,2,-1,20,30⟩] (by decide) bx'
 have cS:=fun bx'=>PG [(5,10)] [(5,10)] (by decide) bx'
 refine Vz fun hf=>?_
 simp [go_sem,C12,hf]
 refine ah (cE _) ?_
 have ev:∀ L m l,∃ lv,ck L m l = lv /\ lv.strip = lv /\ lv.az = true /\ okV lv = true /\ lv.cells.length = 3 /\ V.agg (List.take 3 lv.cells) = lv /\ bh (V.agg [.aH,.int .i64 0,.aH]) 0 lv.cells = lv:=fun L m l=>⟨_,rfl,rfl,rfl,rfl,rfl,rfl,rfl⟩
 obtain ⟨vE,hE,e1,e2,e3,e4,e5,e6⟩:=ev yG 1 BM
 rw [hE] at cF cL ⊢
 simp [go_sem,e1,e2,e3,e4,e5]
 refine ah (cF _) ?_
 simp [go_sem,hf,iI]
 refine ah (cE _) ?_
 rw [hE]
 simp [go_sem,e1,e2,e3,e4,e5]
 refine ah (cL _) ?_
 simp [go_sem,hf,iI]
 refine ah (cE _) ?_
 rw [hE]
 simp [go_sem,hf,iI,e1,e2,e3,e4,e5]
 intro b3 nU
 have sN:Ext bx (aB bx b3 (some (bF.row 69 8 [V.agg [V.int .i64 1,V.int .i64 0,V.int .i64 15,V.int .i64 2,V.int .i64 0,V.int .i64 0,V.int .i64 0,V.bool false],V.agg [V.int .i64 2,V.int .i64 0,V.int .i64 15,V.int .i64 2,V.int .i64 0,V.int .i64 0,V.int .i64 0,V.bool false],V.agg [V.int .i64 8,V.int .i64 0,V.int .i64 15,V.int .i64 2,V.int .i64 7,V.int .i64 0,V.int .i64 0,V.bool false]]))):=(Ext.refl bx).aJ nU _
 have lU:ba (aB bx b3 (some (bF.row 69 8 [V.agg [V.int .i64 1,V.int .i64 0,V.int .i64 15,V.int .i64 2,V.int .i64 0,V.int .i64 0,V.int .i64 0,V.bool false],V.agg [V.int .i64 2,V.int .i64 0,V.int .i64 15,V.int .i64 2,V.int .i64 0,V.int .i64 0,V.int .i64 0,V.bool false],V.agg [V.int .i64 8,V.int .i64 0,V.int .i64 15,V.int .i64 2,V.int .i64 7,V.int .i64 0,V.int .i64 0,V.bool false]]))):=(an _ _ _).2 hf
 have DW:aB bx b3 (some (bF.row 69 8 [V.agg [V.int .i64 1,V.int .i64 0,V.int .i64 15,V.int .i64 2,V.int .i64 0,V.int .i64 0,V.int .i64 0,V.bool false],V.agg [V.int .i64 2,V.int .i64 0,V.int .i64 15,V.int .i64 2,V.int .i64 0,V.int .i64 0,V.int .i64 0,V.bool false],V.agg [V.int .i64 8,V.int .i64 0,V.int .i64 15,V.int .i64 2,V.int .i64 7,V.int .i64 0,V.int .i64 0,V.bool false]])) b3 = some (.row 69 8 ([lN 1 2 0 15 0 0 false,lN 2 2 0 15 0 0 false,lN 8 2 7 15 0 0 false].map ey)):=af _ _ _
 generalize aB bx b3 _ = bx3 at *
 have cA:=LW yG 1 BM [lN 1 2 0 15 0 0 false,lN 2 2 0 15 0 0 false,lN 8 2 7 15 0 0 false] (by decide) DW (n:=3) rfl
 rw [hE,show BM ++ [lN 1 2 0 15 0 0 false,lN 2 2 0 15 0 0 false,lN 8 2 7 15 0 0 false] = uB from rfl] at cA
 refine ah cA ?_
 obtain ⟨vG,hG,g1,g2,g3,g4,g5,g6⟩:=ev yG 1 uB
 rw [hG] at cG ⊢
 simp [go_sem,lU,iI,g1,g2,g3,g4,g5,g6]
 intro b5 Ep
 rw [nN Ep]
 refine ah (cG _) ?_
 simp [go_sem,lU,iI]
 refine ah (cE _) ?_
 rw [hE]
 simp [go_sem,lU,iI,e1,e2,e3,e4,e5]
 intro b4 yq
 have Cu:Ext bx (aB bx3 b4 (some (bF.row 69 8 [V.agg [V.int .i64 18,V.int .i64 0,V.int .i64 6,V.int .i64 0,V.int .i64 0,V.int .i64 0,V.int .i64 0,V.bool false],V.agg [V.int .i64 19,V.int .i64 0,V.int .i64 6,V.int .i64 0,V.int .i64 0,V.int .i64 0,V.int .i64 0,V.bool false]]))):=sN.aJ (sN.none yq) _
 have lI:ba (aB bx3 b4 (some (bF.row 69 8 [V.agg [V.int .i64 18,V.int .i64 0,V.int .i64 6,V.int .i64 0,V.int .i64 0,V.int .i64 0,V.int .i64 0,V.bool false],V.agg [V.int .i64 19,V.int .i64 0,V.int .i64 6,V.int .i64 0,V.int .i64 0,V.int .i64 0,V.int .i64 0,V.bool false]]))):=(an _ _ _).2 lU
 have YB:aB bx3 b4 (some (bF.row 69 8 [V.agg [V.int .i64 18,V.int .i64 0,V.int .i64 6,V.int .i64 0,V.int .i64 0,V.int .i64 0,V.int .i64 0,V.bool false],V.agg [V.int .i64 19,V.int .i64 0,V.int .i64 6,V.int .i64 0,V.int .i64 0,V.int .i64 0,V.int .i64 0,V.bool false]])) b4 = some (.row 69 8 ([lN 18 0 0 6 0 0 false,lN 19 0 0 6 0 0 false].map ey)):=af _ _ _
 generalize aB bx3 b4 _ = bx4 at *
 have cB:=LW yG 1 BM [lN 18 0 0 6 0 0 false,lN 19 0 0 6 0 0 false] (by decide) YB (n:=2) rfl
 rw [hE,show BM ++ [lN 18 0 0 6 0 0 false,lN 19 0 0 6 0 0 false] = uC from rfl] at cB
 refine ah cB ?_
 obtain ⟨vO,hO,o1,o2,o3,o4,o5,o6⟩:=ev yG 1 uC
 rw [hO] at cC ⊢
 simp [go_sem,lI,iI,o1,o2,o3,o4,o5,o6]
 intro b8 hb8
 rw [nN hb8]
 refine ah (cC _) ?_
 have lZ:kj yG 1 ([lN 1 1 0 0 0 0 true,lN 18 0 0 6 0 0 false,lN 19 0 0 6 0 0 false],0) = .agg [.sl 4 (yG.map bG),.int .i64 1,.sl 8 ([lN 1 1 0 0 0 0 true,lN 18 0 0 6 0 0 false,lN 19 0 0 6 0 0 false].map ey)]:=rfl
 rw [lZ]
 simp [go_sem,lI,iI]
 intro b9 hb9
 rw [nN hb9]
 intro b10 hb10
 have EP:Ext bx (aB bx4 b10 (some (bF.row 66 2 [V.agg [V.int .i64 11,V.int .i64 2]]))):=Cu.aJ (Cu.none hb10) _
 have nG:ba (aB bx4 b10 (some (bF.row 66 2 [V.agg [V.int .i64 11,V.int .i64 2]]))):=(an _ _ _).2 lI
 have hr5:aB bx4 b10 (some (bF.row 66 2 [V.agg [V.int .i64 11,V.int .i64 2]])) b10 = some (bF.row 66 2 [V.agg [V.int .i64 11,V.int .i64 2]]):=af _ _ _
 generalize aB bx4 b10 _ = jt at *
 have cP2:=ay.frame (bx:=jt) (args:=[.own b10 2 0 1]) 1 (cP _) (by simp [cK,hr5,bH,iI]) rfl
 refine ah cP2 ?_
 simp [go_sem,nG,iI]
 intro b11 hb11
 have hx6:Ext bx (aB jt b11 (some (bF.row 77 7 [V.agg [V.int .i64 7,V.int .i64 0,V.int .i64 1,V.int .i64 2,V.int .i64 (-1),V.int .i64 20,V.int .i64 30]]))):=EP.aJ (EP.none hb11) _
 have De:ba (aB jt b11 (some (bF.row 77 7 [V.agg [V.int .i64 7,V.int .i64 0,V.int .i64 1,V.int .i64 2,V.int .i64 (-1),V.int .i64 20,V.int .i64 30]]))):=(an _ _ _).2 nG
 have hr6:aB jt b11 (some (bF.row 77 7 [V.agg [V.int .i64 7,V.int .i64 0,V.int .i64 1,V.int .i64 2,V.int .i64 (-1),V.int .i64 20,V.int .i64 30]])) b11 = some (bF.row 77 7 [V.agg [V.int .i64 7,V.int .i64 0,V.int .i64 1,V.int .i64 2,V.int .i64 (-1),V.int .i64 20,V.int .i64 30]]):=af _ _ _
 generalize aB jt b11 _ = qw at *
 have cV2:=ay.frame (bx:=qw) (args:=[.sl 7 [Ky ⟨7,0,1,2,-1,20,30⟩],.own b11 7 0 1]) 1 (cV _) (by simp [cK,hr6,Ky,iI]) rfl
 refine dI cV2 (by simp) (by simp [go_sem]) ?_
 simp [go_sem,De,iI]
 intro b12 hb12
 have Pq:Ext bx (aB qw b12 (some (bF.row 66 2 [V.agg [V.int .i64 5,V.int .i64 10]]))):=hx6.aJ (hx6.none hb12) _
 have LN:ba (aB qw b12 (some (bF.row 66 2 [V.agg [V.int .i64 5,V.int .i64 10]]))):=(an _ _ _).2 De
 have hr7:aB qw b12 (some (bF.row 66 2 [V.agg [V.int .i64 5,V.int .i64 10]])) b12 = some (bF.row 66 2 [V.agg [V.int .i64 5,V.int .i64 10]]):=af _ _ _
 generalize aB qw b12 _ = bx7 at *
 have cS2:=ay.frame (bx:=bx7) (args:=[.sl 2 [bH (5,10)],.own b12 2 0 1]) 1 (cS _) (by simp [cK,hr7,bH,iI]) rfl
 refine dI cS2 (by simp) (by simp [go_sem]) ?_
 simp [go_sem,LN,iI]
 refine ⟨by decide,dI (cE _) (by simp) (by simp [go_sem]) ?_⟩
 simp [go_sem,LN,ck,BM,yG,lN,ey,dQ,iI]
 refine bp (by simp [go_sem]) Pq ⟨by simp [go_sem],rfl⟩
end Go.Proofs
