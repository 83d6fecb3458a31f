/- Texts of the proof, put together: VM, UD, UE, UF, UG, UH, UI, UJ, UK, UL, UM, VN, VO, VP, VQ, VR, UN, UO. -/
import Derived.Test.YtiogeggilnhajaaGreatDoorBh
import Derived.Test.YtiogeggilnhajaaGreatDoorBe
set_option maxHeartbeats 8000000
set_option linter.unusedSimpArgs false
set_option linter.unusedVariables false
set_option maxRecDepth 100000
namespace Go.Pl
open Go
theorem aw.pre {P:Program} {f:FuncId} {args:List V} {bx bx':aa} {Kc:V -> aa -> Prop} (hs:bX bx bx') (h:aw P f args bx' Kc):aw P f args bx Kc:=by
 refine ⟨h.1,fun β M w vs c8 kN jz bO=>?_⟩
 refine (h.2 β M w vs (c8.sub hs) (kN.imp fun _ _ hh=>hs.rep hh) jz (fun i c hc=>hs.rep (bO i c hc))).mono ?_
 rintro e w' ⟨v,r,bx2,β2,rfl,hk,N8,ht,FN⟩
 exact ⟨v,r,bx2,β2,rfl,hk,N8,hs.tr.trans ht,FN⟩
end Go.Pl
namespace Go.Proofs
open Go Go.Pl Tryz
def nh (r:Int × IR):Bool:=!r.2.ended
def rM (b:IB):Bool:=decide (0 < b.cJ)
def zT (s:IW):Bool:=decide (0 < s.busy.length) || s.ai.any rM || s.aE.any nh
def qi (s:IW):IW × Bool:=if s.stop then (s.aj (zT s) 11,true) else (s,false)
theorem Ek {α:Type} (l:List α) (p:α -> Bool) {j:Nat} (hj:j < l.length):(l.take (j + 1)).any p = ((l.take j).any p || p l[j]):=by
 rw [List.take_succ_eq_append_getElem hj,List.any_append]
 simp
theorem El (l:List (Int × IR)) (is:List Nat) (h:is.Perm (List.range l.length)):is.any (fun i=>nh (l.getD i (0,o7))) = l.any nh:=by
 rw [Bool.eq_iff_iff,List.any_eq_true,List.any_eq_true]
 constructor
 ·rintro ⟨i,hi,ho⟩
  have nR:i < l.length:=List.mem_range.1 (h.mem_iff.1 hi)
  rw [List.getD_eq_getElem?_getD,List.getElem?_eq_getElem nR] at ho
  exact ⟨_,List.getElem_mem nR,ho⟩
 ·rintro ⟨r,hr,ho⟩
  obtain ⟨i,hi,rfl⟩:=List.getElem_of_mem hr
  refine ⟨i,h.mem_iff.2 (List.mem_range.2 hi),?_⟩
  rw [List.getD_eq_getElem?_getD,List.getElem?_eq_getElem hi]
  exact ho
theorem OQ {aD bx:aa} {ad:di} {s:IW} (h:WI aD ad s bx) {p:Nat} (hp:ad .w = some p) (x:Ev) (bi:Int) (hl:s.aI.length <= 90000) (hbl:s.ai.length <= 1000) :
 aw prog 87 [.ptr p 13 0 0,dQ x bi] bx (dq aD ad (qi s)):=by
 refine Wo fun hf=>?_
 obtain ⟨pb,pc,pr,pm,pw',hn⟩:=h.names hp
 have au:=h.row hn
 unfold iv at au
 have dm:=h.mW hn
 have vk:=h.WT hn
 have uM:=h.Rm hn
 obtain ⟨z,hz⟩:∃ z,qi s = z:=⟨_,rfl⟩
 rw [hz]
 unfold qi at hz
 cases iB:s.stop
 ·rw [iB] at au hz
  simp [go_sem,C87,hf,au,dQ,iI]
  exact al (by simp [go_sem]) (.of hz.symm ⟨by simp [go_sem],ad,bT.refl _,h⟩)
 rw [iB] at au hz
 simp only [if_true] at hz
 have PW:(gh s.busy oz).length = s.busy.length:=by simp [gh]
 simp [go_sem,C87,hf,au,dQ,iI,uM,PW]
 obtain ⟨B0,Ri⟩:∃ B,decide (0 < s.busy.length) = B:=⟨_,rfl⟩
 rw [Ri]
 refine ch s.ai.length (fun j=>⟨57,bR [(0,.ptr p 13 0 0),(5,.bool (B0 || (s.ai.take j).any rM)),(24,.own pb 6 0 s.ai.length),(25,.int .i64 s.ai.length),(26,.int .i64 j)],bx⟩) (ak (by simp [go_sem])) (fun j hj N hN=>?_) (fun N=>?_)
 ·have hw:=bj (k:=j) (by omega)
  rw [Ek _ _ hj,<- Bool.or_assoc] at hN
  cases ha:(B0 || (s.ai.take j).any rM)
  ·rw [ha] at hN
   simp only [Bool.false_or,rM] at hN
   simp [go_sem,C6,hj,hf,hw,dm,iq,kZ,iI]
   intro b hb
   rw [tP hb]
   exact hN _ (ak (by simp [go_sem]))
  ·rw [ha] at hN
   simp only [Bool.true_or] at hN
   simp [go_sem,C6,hj,hf,hw,dm,iq,kZ,iI]
   intro b hb
   rw [tP hb]
   exact hN _ (ak (by simp [go_sem]))
 rw [List.take_length]
 simp [go_sem,C6,hf,au,vk]
 obtain ⟨B1,hB1⟩:∃ B,(B0 || s.ai.any rM) = B:=⟨_,rfl⟩
 rw [hB1]
 intro bs c b' iS sk dr aR
 obtain ⟨E,hE⟩:∃ E,(kh (s.aE.map (fun x=>x.1)) fun i=>V.ptr (nY ad (.rq i)) 5 0 0) = E:=⟨_,rfl⟩
 have OR:bx pr = some (.map E):=by rw [vk,<- hE]
 rw [hE] at iS aR ⊢
 have hEl:E.length = s.aE.length:=by rw [<- hE,GL,List.length_map]
 rw [hEl] at iS
 have nb1:b' ≠ pr:=(eN aR).1
 have ff:bx b' = none:=(eN aR).2
 have back:∀ sn,bX (aB (aB bx pr (some (bF.kz E bs c))) b' (some (bF.iter pr c c sn))) bx:=fun sn=>Jp (b:=pr) (by rw [ae _ _ (Ne.symm nb1),af]) OR fun d hd=>by
  by_cases ed:d = b'
  ·subst ed; exact .inl ff
  ·exact .inr (by rw [ae _ _ ed,ae _ _ hd])
 refine pV (ι:=List Nat × List Nat) (fun q=>Seen s.aE.length bs q.1 q.2) (fun q=>⟨57,bR [(0,.ptr p 13 0 0),(5,.bool (B1 || q.1.any (fun i=>nh (s.aE.getD i (0,o7))))),(41,.ptr b' 1 0 0)],aB (aB bx pr (some (.kz E bs c))) b' (some (.iter pr c c q.2))⟩) (fun q=>s.aE.length - q.1.length) ([],[]) (Seen.nil _ _) (ak (by simp [go_sem])) ?_
 rintro ⟨is,seen⟩ hS
 dsimp only at hS ⊢
 have y7:aB (aB bx pr (some (bF.kz E bs c))) b' (some (bF.iter pr c c seen)) b' = some (bF.iter pr c c seen):=af _ _ _
 have mf:aB (aB bx pr (some (bF.kz E bs c))) b' (some (bF.iter pr c c seen)) pr = some (bF.kz E bs c):=by rw [ae _ _ (Ne.symm nb1),af]
 obtain ⟨B2,CM⟩:∃ B,(B1 || is.any (fun i=>nh (s.aE.getD i (0,o7)))) = B:=⟨_,rfl⟩
 rw [CM]
 simp [go_sem,L6,y7,mf]
 refine ⟨dr,fun gr=>?_,?_⟩
 ·have OS:=hS.all iS sk gr
  have hD:B2 = zT s:=by rw [<- CM,El _ _ OS,<- hB1,<- Ri]; rfl
  cases hlw:zT s
  ·rw [hlw] at hD hz
   subst hD
   simp [go_sem]
   exact Jq (by simp [go_sem]) (back seen) (.of hz.symm ⟨by simp [go_sem],ad,bT.refl _,h⟩)
  ·rw [hlw] at hD hz
   subst hD
   simp [go_sem]
   refine ar (aw.pre (back seen) (dz h hp 11 (by omega))) ?_
   rintro r bP ⟨rfl,ad1,ee,h1⟩
   have bg:=h1.fin
   simp [go_sem,bg]
   exact al (by simp [go_sem]) (.of hz.symm ⟨by simp [go_sem],ad1,ee,h1⟩)
 ·intro i q a v hq LG Mh
  obtain ⟨g1,g2,g3⟩:=hS.next iS hq Mh
  obtain ⟨br,A2,hrr⟩:=h.LB g2
  have hEi:E[i]? = some (iI s.aE[i].1,.ptr br 5 0 0):=by
   rw [<- hE]
   unfold kh
   rw [List.getElem?_mapIdx,List.getElem?_map,List.getElem?_eq_getElem g2]
   simp [dJ A2]
  rw [hEi] at LG
  injection LG with LG
  injection LG with hE3 hE4
  subst hE3 hE4
  rw [ae _ _ (Ne.symm nb1),af]
  have adx:br ≠ pr:=by rintro rfl; rw [hrr] at OR; cases OR
  have ady:br ≠ b':=by rintro rfl; rw [hrr] at ff; cases ff
  have adz:aB (aB bx pr (some (bF.kz E bs c))) b' (some (bF.iter pr c c (seen ++ [q]))) br = some (.row vg 5 [sI s.aE[i].2]):=by rw [ae _ _ ady,ae _ _ adx,hrr]
  refine ⟨rfl,i,iI s.aE[i].1,.ptr br 5 0 0,seen,q,⟨rfl,rfl⟩,hq,hEi,?_⟩
  have tn:(B1 || (is ++ [i]).any (fun i=>nh (s.aE[i]?.getD (0,o7)))) = (B2 || !s.aE[i].2.ended):=by
   rw [List.any_append,<- Bool.or_assoc,<- CM]
   simp [nh,g2]
  have hlen:=g3.len
  rw [List.length_append,List.length_singleton] at hlen
  cases B2
  ·cases he:s.aE[i].2.ended
   all_goals (
    rw [he] at tn
    simp [go_sem,adz,sI,iI,he]
    exact ⟨(is ++ [i],seen ++ [q]),g3,ak (by simp only [tn]; simp [go_sem]),by simp; omega⟩)
  ·simp [go_sem]
   exact ⟨(is ++ [i],seen ++ [q]),g3,ak (by simp only [tn]; simp [go_sem]),by simp; omega⟩
end Go.Proofs
namespace Go.Proofs
open Go Go.Pl Tryz
def RW.fault (w:RW) (k:Int):RW:={ w with aI:=w.aI ++ [(k,w.ev)] }
def RW.aj (w:RW) (c:Bool) (k:Int):RW:=if c then w.fault k else w
def RW.aQ (w:RW) (i:Nat) (b:RB):RW:={ w with ai:=w.ai.set i b }
def RW.dU (w:RW) (i:Nat) (r:RR):RW:={ w with aE:=w.aE.set i r }
def RW.bh (w:RW) (i:Nat) (c:RC):RW:={ w with aq:=w.aq.set i c }
def gD:RB:=⟨false,0,0,[],[]⟩
def zU:RR:=⟨0,false,0,0,0,false⟩
def yF:RC:=⟨0,0,0,0,0,0,0,0,0,0⟩
def fA (aD:aa) (p:Nat) (z:RW × Bool) (r:V) (bx':aa):Prop:=r = .bool z.2 /\ ∃ n,n.p = p /\ WR aD n z.1 bx'
def rN (w:RW) (x:Ev):RW × Bool :=
 if dA w x.call then
  let i:=(dy w x.call).getD 0
  let r:=w.aE.getD i zU
  let b:=w.ai.getD x.bk gD
  let w1:=w.aj (b.down || decide (b.gV = 1)) 7
  let w2:=if b.gV = 2 then (w1.aj (decide (b.aM ≠ 0) && decide (b.aM ≠ x.call)) 8).aQ x.bk { b with aM:=x.call } else w1
  let w3:=w2.aj (decide (w.most < r.aO)) 10
  (w3.dU i { r with aO:=cH (r.aO + 1),at_:=x.bk },true)
 else (w,false)
theorem pd {w:RW} {call:Int} (h:dA w call = true):∃ i,dy w call = some i /\ i < w.aE.length:=by
 unfold dA at h
 cases hf:dy w call with
 | none=>rw [hf] at h; cases h
 | some i=>exact ⟨i,rfl,nD hf⟩
abbrev lJ (x:Ev):V:=.ep (aX x) 0
structure af1 (n n':RN):Prop where
 p:n'.p = n.p
 bb:n'.bb = n.bb
 cv:n'.cv = n.cv
 rv:n'.rv = n.rv
theorem WR.CN {aD bx:aa} {n:RN} {w:RW} (h:WR aD n w bx) {b:Nat} (hv:n.rv = .own b 6 0 w.aE.length):bx b = some (.row L9 6 (w.aE.map mT)):=by
 rcases h.aE with ⟨_,h1⟩ | ⟨b',h1,h2⟩
 ·rw [hv] at h1; cases h1
 ·rw [hv] at h1; injection h1 with h1; subst h1; exact h2
theorem WR.CO {aD bx:aa} {n:RN} {w:RW} (h:WR aD n w bx) {b:Nat} (hv:n.cv = .own b 10 0 w.aq.length):bx b = some (.row CG 10 (w.aq.map jl)):=by
 rcases h.aq with ⟨_,h1⟩ | ⟨b',h1,h2⟩
 ·rw [hv] at h1; cases h1
 ·rw [hv] at h1; injection h1 with h1; subst h1; exact h2
theorem CP {aD bx:aa} {n:RN} {w:RW} (h:WR aD n w bx) (x:Ev) {i:Nat} (hi:i < w.aE.length) {b:Nat} (hv:n.rv = .own b 6 0 w.aE.length) (s:St) (hs:jq s ⟨87,bR [(3,lJ x),(5,.ptr b 6 i 0)],bx⟩) :
 pw prog C9 (fV prog [.tmp 4] (fA aD n.p (w.dU i { w.aE[i] with aO:=cH (w.aE[i].aO + 1),at_:=x.bk },true))) s:=by
 have hf:=h.fin
 have hb:=h.CN hv
 refine j0 hs ?_
 simp [go_sem,hf,hb,hi,aX,mT,iI]
 refine ⟨by simp [jd,lB,mh,jT],?_⟩
 exact al (by simp [go_sem]) ⟨by simp [go_sem],n,rfl,h.By hv hb i { w.aE[i] with aO:=cH (w.aE[i].aO + 1),at_:=x.bk }⟩
theorem sO {aD bx:aa} {n:RN} {w:RW} (h:WR aD n w bx) (x:Ev) (hl:w.aI.length <= 60000) {i:Nat} (hi:i < w.aE.length) {b:Nat} (hv:n.rv = .own b 6 0 w.aE.length) (s:St) (hs:jq s ⟨87,bR [(0,.ptr n.p 10 0 0),(3,lJ x),(5,.ptr b 6 i 0)],bx⟩) :
 pw prog CA (fV prog [.tmp 4] (fA aD n.p ((w.aj (decide (w.most < w.aE[i].aO)) 10).dU i { w.aE[i] with aO:=cH (w.aE[i].aO + 1),at_:=x.bk },true))) s:=by
 have hf:=h.fin
 have au:=h.row
 unfold gP at au
 have hb:=h.CN hv
 refine j0 hs ?_
 by_cases c1:w.most < w.aE[i].aO
 ·simp [go_sem,hf,hb,hi,aX,mT,iI,au,c1]
  refine ar (db h 10 (by omega)) ?_
  rintro r bP ⟨rfl,v',h1⟩
  have bg:=h1.fin
  simp [go_sem,bg]
  exact CP h1 x (i:=i) hi (b:=b) hv _ (ak (by simp [go_sem]))
 ·simp [go_sem,hf,hb,hi,aX,mT,iI,au,c1]
  exact CP h x (i:=i) hi (b:=b) hv _ (ak (by simp [go_sem]))
theorem CQ {aD bx:aa} {n:RN} {w:RW} (h:WR aD n w bx) (x:Ev) (hl:w.aI.length <= 59000) (hx:x.bk < w.ai.length) {i:Nat} (hi:i < w.aE.length) {b:Nat} (hv:n.rv = .own b 6 0 w.aE.length) (s:St) (hs:jq s ⟨87,bR [(0,.ptr n.p 10 0 0),(3,lJ x),(5,.ptr b 6 i 0),(6,.ptr n.bb 5 x.bk 0)],bx⟩) :
 pw prog sE (fV prog [.tmp 4] (fA aD n.p (((if w.ai[x.bk].gV = 2 then (w.aj (decide (w.ai[x.bk].aM ≠ 0) && decide (w.ai[x.bk].aM ≠ x.call)) 8).aQ x.bk { w.ai[x.bk] with aM:=x.call } else w).aj (decide (w.most < w.aE[i].aO)) 10).dU i { w.aE[i] with aO:=cH (w.aE[i].aO + 1),at_:=x.bk },true))) s:=by
 have hf:=h.fin
 have au:=h.row
 unfold gP at au
 have hb:=h.CN hv
 have dm:=h.ai
 have hY:∀ b,w.ai[x.bk]? = some b -> w.ai[x.bk].ax = b.ax /\ w.ai[x.bk].waits = b.waits:=fun b hb=>by
  rw [List.getElem?_eq_getElem hx] at hb
  injection hb with hb
  rw [hb]
  exact ⟨rfl,rfl⟩
 refine j0 hs ?_
 by_cases c1:w.ai[x.bk].gV = 2
 ·by_cases c2:w.ai[x.bk].aM = 0
  ·simp [go_sem,hf,dm,hx,aX,eQ,iI,au,c1,c2]
   exact sO (h.oW x.bk ⟨w.ai[x.bk].down,2,x.call,w.ai[x.bk].ax,w.ai[x.bk].waits⟩ hY) x (by simpa using by omega) (i:=i) hi (b:=b) hv _ (ak (by simp [go_sem]))
  ·by_cases c3:w.ai[x.bk].aM = x.call
   ·simp [go_sem,hf,dm,hx,aX,eQ,iI,au,c1,c2,c3]
    exact sO (h.oW x.bk ⟨w.ai[x.bk].down,2,x.call,w.ai[x.bk].ax,w.ai[x.bk].waits⟩ hY) x (by simpa using by omega) (i:=i) hi (b:=b) hv _ (ak (by simp [go_sem]))
   ·simp [go_sem,hf,dm,hx,aX,eQ,iI,au,c1,c2,c3]
    refine ar (db h 8 (by omega)) ?_
    rintro r bP ⟨rfl,v',h1⟩
    have bg:=h1.fin
    have B3:=h1.ai
    simp [go_sem,bg,B3,hx,aX,eQ,iI,c1]
    exact sO (h1.oW x.bk ⟨w.ai[x.bk].down,2,x.call,w.ai[x.bk].ax,w.ai[x.bk].waits⟩ hY) x (by simpa using by omega) (i:=i) hi (b:=b) hv _ (ak (by simp [go_sem]))
 ·simp [go_sem,hf,dm,hx,aX,eQ,iI,au,c1]
  exact sO h x (by omega) (i:=i) hi (b:=b) hv _ (ak (by simp [go_sem]))
theorem OT {aD bx:aa} {n:RN} {w:RW} (h:WR aD n w bx) (x:Ev) (hx:x.bk < w.ai.length) (hl:w.aI.length <= 50000) :
 aw prog 126 [.ptr n.p 10 0 0,aX x] bx (fA aD n.p (rN w x)):=by
 refine Oc fun hf=>?_
 have cR:=xX h x.call
 have cF:=oV h x.call
 have au:=h.row
 unfold gP at au
 have dm:=h.ai
 unfold rN
 cases hre:dA w x.call
 ·rw [hre] at cR
  simp [go_sem,Ob,hf,aX,iI]
  refine ah cR ?_
  simp [go_sem,hf]
  exact al (by simp [go_sem]) ⟨by simp [go_sem],n,rfl,h⟩
 obtain ⟨i,hi,nR⟩:=pd hre
 rw [hre] at cR
 rw [hi] at cF
 obtain ⟨b,hv,hb⟩:=h.aE.at (by simpa using by omega)
 simp at hv
 unfold gu Az at cF
 rw [hv] at cF
 simp at cF
 have e1:w.aE.getD i zU = w.aE[i]:=by simp [nR]
 have e2:w.ai.getD x.bk gD = w.ai[x.bk]:=by simp [hx]
 rw [hi]
 simp only [Option.getD_some,e1,e2,if_true]
 obtain ⟨w1,ja⟩:∃ w1,w.aj (w.ai[x.bk].down || decide (w.ai[x.bk].gV = 1)) 7 = w1:=⟨_,rfl⟩
 rw [ja]
 generalize hz:((RW.dU (RW.aj (if w.ai[x.bk].gV = 2 then (w1.aj (decide (w.ai[x.bk].aM ≠ 0) && decide (w.ai[x.bk].aM ≠ x.call)) 8).aQ x.bk { w.ai[x.bk] with aM:=x.call } else w1) (decide (w.most < w.aE[i].aO)) 10) i { w.aE[i] with aO:=cH (w.aE[i].aO + 1),at_:=x.bk },true):RW × Bool) = z
 simp [go_sem,Ob,hf,aX,iI]
 refine ah cR ?_
 simp [go_sem,hf]
 refine ah cF ?_
 have go (hd:(w.ai[x.bk].down || decide (w.ai[x.bk].gV = 1)) = true) {v':V} {bP:aa} (h1:WR aD { n with fv:=v' } { w with aI:=w.aI ++ [(7,w.ev)] } bP) (s:St) (hs:jq s ⟨87,bR [(0,.ptr n.p 10 0 0),(3,lJ x),(5,.ptr b 6 i 0),(6,.ptr n.bb 5 x.bk 0)],bP⟩) :
  pw prog sE (fV prog [.tmp 4] (fA aD n.p z)) s:=by
  rw [hd] at ja
  subst ja
  subst hz
  exact CQ h1 x (by simpa using by omega) hx nR hv _ hs
 have go0 (hd:(w.ai[x.bk].down || decide (w.ai[x.bk].gV = 1)) = false) (s:St) (hs:jq s ⟨87,bR [(0,.ptr n.p 10 0 0),(3,lJ x),(5,.ptr b 6 i 0),(6,.ptr n.bb 5 x.bk 0)],bx⟩) :
  pw prog sE (fV prog [.tmp 4] (fA aD n.p z)) s:=by
  rw [hd] at ja
  subst ja
  subst hz
  exact CQ h x (by omega) hx nR hv _ hs
 by_cases c1:w.ai[x.bk].down = true
 ·simp [go_sem,hf,au,dm,hx,eQ,iI,c1]
  refine ar (db h 7 (by omega)) ?_
  rintro r bP ⟨rfl,v',h1⟩
  have bg:=h1.fin
  simp [go_sem,bg]
  exact go (by simp [c1]) h1 _ (ak (by simp [go_sem,lJ,aX,iI]))
 ·by_cases c2:w.ai[x.bk].gV = 1
  ·simp [go_sem,hf,au,dm,hx,eQ,iI,c1,c2]
   refine ar (db h 7 (by omega)) ?_
   rintro r bP ⟨rfl,v',h1⟩
   have bg:=h1.fin
   simp [go_sem,bg]
   exact go (by simp [c2]) h1 _ (ak (by simp [go_sem,lJ,aX,iI]))
  ·simp [go_sem,hf,au,dm,hx,eQ,iI,c1,c2]
   exact go0 (by simp [c1,c2]) _ (ak (by simp [go_sem,lJ,aX,iI]))
theorem fA.of {aD bx':aa} {p:Nat} {z z':RW × Bool} {r:V} (hz:z = z') (h:fA aD p z' r bx'):fA aD p z r bx':=hz ▸ h
def jF (w:RW) (x:Ev):RW × Bool :=
 match dy w x.call with
 | none=>(w,false)
 | some i =>
   let r:=w.aE.getD i zU
   let b:=w.ai.getD x.bk gD
   if r.aO = 0 \/ r.at_ ≠ x.bk then (w,false)
   else if b.aM = x.call then (w.aQ x.bk { b with aM:=0,gV:=if x.yes then 0 else 1 },true)
   else (w,true)
theorem GY {aD bx:aa} {n:RN} {w:RW} (h:WR aD n w bx) (x:Ev) (hx:x.bk < w.ai.length) :
 aw prog 133 [.ptr n.p 10 0 0,aX x] bx (fA aD n.p (jF w x)):=by
 refine Ok fun hf=>?_
 have cF:=oV h x.call
 have au:=h.row
 unfold gP at au
 have dm:=h.ai
 have e2:w.ai.getD x.bk gD = w.ai[x.bk]:=by simp [hx]
 have hY (z:RB) (h1:z.ax = w.ai[x.bk].ax) (h2:z.waits = w.ai[x.bk].waits):∀ b,w.ai[x.bk]? = some b -> z.ax = b.ax /\ z.waits = b.waits:=fun b hb=>by
  rw [List.getElem?_eq_getElem hx] at hb
  injection hb with hb
  rw [<- hb]
  exact ⟨h1,h2⟩
 obtain ⟨z,hz⟩:∃ z,jF w x = z:=⟨_,rfl⟩
 rw [hz]
 unfold jF at hz
 rw [e2] at hz
 simp [go_sem,WH,hf,aX,iI]
 cases iR:dy w x.call with
 | none =>
   rw [iR] at cF hz
   dsimp only at hz
   unfold gu at cF
   refine ah cF ?_
   simp [go_sem,hf,au,dm,hx]
   exact al (by simp [go_sem]) (.of hz.symm ⟨by simp [go_sem],n,rfl,h⟩)
 | some i =>
   have hi:=nD iR
   have e1:w.aE.getD i zU = w.aE[i]:=by simp [hi]
   rw [iR] at cF hz
   dsimp only at hz
   rw [e1] at hz
   obtain ⟨b,hv,hb⟩:=h.aE.at (by simpa using by omega)
   simp at hv
   unfold gu Az at cF
   rw [hv] at cF
   simp at cF
   refine ah cF ?_
   by_cases c1:w.aE[i].aO = 0
   ·simp [go_sem,hf,au,dm,hx,hb,mT,iI,hi,c1]
    exact al (by simp [go_sem]) (.of (z':=(w,false)) (by rw [<- hz]; simp [c1]) ⟨by simp [go_sem],n,rfl,h⟩)
   by_cases c2:w.aE[i].at_ = x.bk
   ·by_cases c3:w.ai[x.bk].aM = x.call
    ·cases c4:x.yes
     ·simp [go_sem,hf,au,dm,hx,hb,mT,iI,hi,c1,c2,c3,c4,eQ]
      exact al (by simp [go_sem]) (.of (z':=(w.aQ x.bk ⟨w.ai[x.bk].down,1,0,w.ai[x.bk].ax,w.ai[x.bk].waits⟩,true)) (by rw [<- hz]; simp [c1,c2,c3,c4]) ⟨by simp [go_sem],n,rfl,h.oW x.bk ⟨w.ai[x.bk].down,1,0,w.ai[x.bk].ax,w.ai[x.bk].waits⟩ (hY _ rfl rfl)⟩)
     ·simp [go_sem,hf,au,dm,hx,hb,mT,iI,hi,c1,c2,c3,c4,eQ]
      exact al (by simp [go_sem]) (.of (z':=(w.aQ x.bk ⟨w.ai[x.bk].down,0,0,w.ai[x.bk].ax,w.ai[x.bk].waits⟩,true)) (by rw [<- hz]; simp [c1,c2,c3,c4]) ⟨by simp [go_sem],n,rfl,h.oW x.bk ⟨w.ai[x.bk].down,0,0,w.ai[x.bk].ax,w.ai[x.bk].waits⟩ (hY _ rfl rfl)⟩)
    ·simp [go_sem,hf,au,dm,hx,hb,mT,iI,hi,c1,c2,c3,eQ]
     exact al (by simp [go_sem]) (.of (z':=(w,true)) (by rw [<- hz]; simp [c1,c2,c3]) ⟨by simp [go_sem],n,rfl,h⟩)
   ·simp [go_sem,hf,au,dm,hx,hb,mT,iI,hi,c1,c2]
    exact al (by simp [go_sem]) (.of (z':=(w,false)) (by rw [<- hz]; simp [c1,c2]) ⟨by simp [go_sem],n,rfl,h⟩)
def lV (w:RW) (x:Ev):RW × Bool :=
 match eX w x.conn x.bk with
 | none=>(w.fault 4,true)
 | some i =>
   let c:=w.aq.getD i yF
   if x.kind = 12 /\ c.st = 4 then (w.fault 4,true)
   else if x.kind = 13 then (if c.st = 1 then (w,false) else (w.bh i { c with st:=5,fin:=w.now },true))
   else if c.st = 1 then (w.fault 1,true)
   else if c.st = 2 then (w,false)
   else (w.bh i { c with st:=2,since:=w.now },true)
theorem GZ {aD bx:aa} {n:RN} {w:RW} (h:WR aD n w bx) (x:Ev) (hl:w.aI.length <= 50000) :
 aw prog 132 [.ptr n.p 10 0 0,aX x] bx (fA aD n.p (lV w x)):=by
 refine Oj fun hf=>?_
 have cT:=xW h x.conn x.bk
 have au:=h.row
 unfold gP at au
 have c4:=db h 4 (by omega)
 have c1:=db h 1 (by omega)
 obtain ⟨z,hz⟩:∃ z,lV w x = z:=⟨_,rfl⟩
 rw [hz]
 unfold lV at hz
 simp [go_sem,WG,hf,aX,iI]
 cases iR:eX w x.conn x.bk with
 | none =>
   rw [iR] at cT hz
   dsimp only at hz
   unfold gu at cT
   refine ah cT ?_
   simp [go_sem,hf]
   refine ar c4 ?_
   rintro r bP ⟨rfl,v',h1⟩
   have bg:=h1.fin
   simp [go_sem,bg]
   exact al (by simp [go_sem]) (.of hz.symm ⟨by simp [go_sem],{ n with fv:=v' },rfl,h1⟩)
 | some i =>
   have hi:=qb iR
   have e1:w.aq.getD i yF = w.aq[i]:=by simp [hi]
   rw [iR] at cT hz
   dsimp only at hz
   rw [e1] at hz
   obtain ⟨b,hv,hb⟩:=h.aq.at (by simpa using by omega)
   simp at hv
   unfold gu Az at cT
   rw [hv] at cT
   simp at cT
   refine ah cT ?_
   by_cases k1:x.kind = 13
   ·by_cases s1:w.aq[i].st = 1
    ·simp [go_sem,hf,au,hb,jl,iI,hi,k1,s1]
     exact al (by simp [go_sem]) (.of (z':=(w,false)) (by rw [<- hz]; simp [k1,s1]) ⟨by simp [go_sem],n,rfl,h⟩)
    ·simp [go_sem,hf,au,hb,jl,iI,hi,k1,s1]
     exact al (by simp [go_sem]) (.of (z':=(w.bh i { w.aq[i] with st:=5,fin:=w.now },true)) (by rw [<- hz]; simp [k1,s1]) ⟨by simp [go_sem],n,rfl,h.lF hv hb i { w.aq[i] with st:=5,fin:=w.now }⟩)
   ·by_cases s4:w.aq[i].st = 4
    ·by_cases k2:x.kind = 12
     ·simp [go_sem,hf,au,hb,jl,iI,hi,k1,k2,s4]
      refine ar c4 ?_
      rintro r bP ⟨rfl,v',h1⟩
      have bg:=h1.fin
      simp [go_sem,bg]
      exact al (by simp [go_sem]) (.of (z':=(w.fault 4,true)) (by rw [<- hz]; simp [k2,s4]) ⟨by simp [go_sem],{ n with fv:=v' },rfl,h1⟩)
     ·simp [go_sem,hf,au,hb,jl,iI,hi,k1,k2,s4]
      exact al (by simp [go_sem]) (.of (z':=(w.bh i { w.aq[i] with st:=2,since:=w.now },true)) (by rw [<- hz]; simp [k1,k2,s4]) ⟨by simp [go_sem],n,rfl,h.lF hv hb i { w.aq[i] with st:=2,since:=w.now }⟩)
    ·have JR:¬ (x.kind = 12 /\ w.aq[i].st = 4):=fun h=>s4 h.2
     by_cases k2:x.kind = 12 <;> by_cases s1:w.aq[i].st = 1 <;> by_cases s2:w.aq[i].st = 2 <;> simp [go_sem,hf,au,hb,jl,iI,hi,k1,k2,s4,s1,s2]
     all_goals first
      | exact al (by simp [go_sem]) (.of (z':=(w,false)) (by rw [<- hz]; simp [k1,k2,s4,s1,s2]) ⟨by simp [go_sem],n,rfl,h⟩)
      | exact al (by simp [go_sem]) (.of (z':=(w.bh i { w.aq[i] with st:=2,since:=w.now },true)) (by rw [<- hz]; simp [k1,k2,s4,s1,s2]) ⟨by simp [go_sem],n,rfl,h.lF hv hb i { w.aq[i] with st:=2,since:=w.now }⟩)
      | (refine ar c1 ?_
         rintro r bP ⟨rfl,v',h1⟩
         have bg:=h1.fin
         simp [go_sem,bg]
         exact al (by simp [go_sem]) (.of (z':=(w.fault 1,true)) (by rw [<- hz]; simp [k1,k2,s4,s1]) ⟨by simp [go_sem],{ n with fv:=v' },rfl,h1⟩))
      | omega
def sf (w:RW) (x:Ev):RW :=
 match kI w x with
 | none=>w.fault 4
 | some i =>
   let c:=w.aq.getD i yF
   if x.kind = 10 then (w.aj (decide (x.kf ≠ x.call)) 6).bh i { c with read:=cH (c.read + x.n) }
   else match dy w x.call with
    | none=>w
    | some j =>
      let r:=w.aE.getD j zU
      ((w.aj (!r.idem && decide (0 < r.cj) && decide (r.cj < r.aO)) 10).dU j { r with cj:=r.aO }).bh i { c with cj:=cH (c.cj + x.n) }
def qj (aD:aa) (p:Nat) (z:RW) (r:V) (bx':aa):Prop:=r = .dc [] /\ ∃ n,n.p = p /\ WR aD n z bx'
theorem qj.of {aD bx':aa} {p:Nat} {z z':RW} {r:V} (hz:z = z') (h:qj aD p z' r bx'):qj aD p z r bx':=hz ▸ h
theorem vZ {w:RW} {x:Ev} {i:Nat} (h:kI w x = some i):eX w x.conn x.bk = some i /\ i < w.aq.length:=by
 unfold kI at h
 split at h
 ·rename_i j hj
  split at h
  ·rename_i c hc
   split at h
   ·injection h with h
    subst h
    exact ⟨hj,qb hj⟩
   ·cases h
  ·cases h
 ·cases h
theorem Ha {aD bx:aa} {n:RN} {w:RW} (h:WR aD n w bx) (x:Ev) {i:Nat} (hi:i < w.aq.length) {b:Nat} (hv:n.cv = .own b 10 0 w.aq.length) {j:Nat} (hj:j < w.aE.length) {b2:Nat} (sP:n.rv = .own b2 6 0 w.aE.length) (s:St) (hs:jq s ⟨79,bR [(3,lJ x),(4,.ptr b 10 i 0),(5,.ptr b2 6 j 0)],bx⟩) :
 pw prog sF (fV prog [] (qj aD n.p ((w.dU j { w.aE[j] with cj:=w.aE[j].aO }).bh i { w.aq[i] with cj:=cH (w.aq[i].cj + x.n) }))) s:=by
 have hf:=h.fin
 have cz:=h.CN sP
 have h1:=h.By sP cz j { w.aE[j] with cj:=w.aE[j].aO }
 have hb:=h1.CO hv
 refine j0 hs ?_
 simp [go_sem,hf,cz,hj,aX,mT,iI]
 rw [show (V.agg [V.int .i64 w.aE[j].call,V.bool w.aE[j].idem,V.int .i64 w.aE[j].aO,V.int .i64 w.aE[j].at_,V.int .i64 w.aE[j].aO,V.bool w.aE[j].ended]:V) = mT { w.aE[j] with cj:=w.aE[j].aO } from rfl]
 have bg:=h1.fin
 generalize (aB bx b2 (some (.row L9 6 ((w.aE.map mT).set j (mT { w.aE[j] with cj:=w.aE[j].aO }))))) = bP at *
 simp [go_sem,bg,hb,hi,aX,jl,iI]
 exact al (by simp [go_sem]) ⟨by simp [go_sem],n,rfl,h1.lF hv hb i { w.aq[i] with cj:=cH (w.aq[i].cj + x.n) }⟩
theorem LI {aD bx:aa} {n:RN} {w:RW} (h:WR aD n w bx) (x:Ev) (hl:w.aI.length <= 50000) (FL:∀ i,kI w x = some i -> x.kind ≠ 10 -> ∃ j,dy w x.call = some j) :
 aw prog 130 [.ptr n.p 10 0 0,aX x] bx (qj aD n.p (sf w x)):=by
 refine Oh fun hf=>?_
 have cO:=L8 h x
 have au:=h.row
 unfold gP at au
 obtain ⟨z,hz⟩:∃ z,sf w x = z:=⟨_,rfl⟩
 rw [hz]
 unfold sf at hz
 have evf:V.agg [V.int .i64 x.kind,V.int .i64 x.bk,V.int .i64 x.t,V.int .i64 x.call,V.int .i64 x.conn,V.int .i64 x.kf,V.int .i64 x.n,V.bool x.yes] = aX x:=rfl
 simp [go_sem,WD,hf,aX,iI]
 rw [evf]
 cases iR:kI w x with
 | none =>
   rw [iR] at cO hz
   dsimp only at hz
   unfold gu at cO
   refine ah cO ?_
   simp [go_sem,hf]
   refine ar (db h 4 (by omega)) ?_
   rintro r bP ⟨rfl,v',h1⟩
   have bg:=h1.fin
   simp [go_sem,bg]
   exact al (by simp [go_sem]) (.of hz.symm ⟨by simp [go_sem],{ n with fv:=v' },rfl,h1⟩)
 | some i =>
   have hi:=(vZ iR).2
   have e1:w.aq.getD i yF = w.aq[i]:=by simp [hi]
   rw [iR] at cO hz
   dsimp only at hz
   rw [e1] at hz
   obtain ⟨b,hv,hb⟩:=h.aq.at (by simpa using by omega)
   simp at hv
   unfold gu Az at cO
   rw [hv] at cO
   simp at cO
   refine ah cO ?_
   by_cases k1:x.kind = 10
   ·by_cases k2:x.kf = x.call
    ·simp [go_sem,hf,au,hb,jl,iI,hi,k1,k2,aX]
     exact al (by simp [go_sem]) (.of (z':=w.bh i { w.aq[i] with read:=cH (w.aq[i].read + x.n) }) (by rw [<- hz]; simp [k1,k2,RW.aj]) ⟨by simp [go_sem],n,rfl,h.lF hv hb i { w.aq[i] with read:=cH (w.aq[i].read + x.n) }⟩)
    ·simp [go_sem,hf,au,hb,jl,iI,hi,k1,k2,aX]
     refine ar (db h 6 (by omega)) ?_
     rintro r bP ⟨rfl,v',h1⟩
     have bg:=h1.fin
     have eK:=h1.CO hv
     simp [go_sem,bg,eK,hi,jl,iI]
     exact al (by simp [go_sem]) (.of (z':=(w.fault 6).bh i { w.aq[i] with read:=cH (w.aq[i].read + x.n) }) (by rw [<- hz]; simp [k1,k2,RW.aj]) ⟨by simp [go_sem],{ n with fv:=v' },rfl,h1.lF hv eK i { w.aq[i] with read:=cH (w.aq[i].read + x.n) }⟩)
   ·obtain ⟨j,hj⟩:=FL i iR k1
    have lR:=nD hj
    have e2:w.aE.getD j zU = w.aE[j]:=by simp [lR]
    have cF:=oV h x.call
    rw [hj] at cF hz
    dsimp only at hz
    rw [e2,if_neg k1] at hz
    obtain ⟨b2,sP,cz⟩:=h.aE.at (by simpa using by omega)
    simp at sP
    unfold gu Az at cF
    rw [sP] at cF
    simp at cF
    simp [go_sem,hf,au,hb,jl,iI,hi,k1,aX]
    refine ah cF ?_
    have go (hd:(!w.aE[j].idem && decide (0 < w.aE[j].cj) && decide (w.aE[j].cj < w.aE[j].aO)) = true) {v':V} {bP:aa} (h1:WR aD { n with fv:=v' } { w with aI:=w.aI ++ [(10,w.ev)] } bP) (s:St) (hs:jq s ⟨79,bR [(3,lJ x),(4,.ptr b 10 i 0),(5,.ptr b2 6 j 0)],bP⟩) :
     pw prog sF (fV prog [] (qj aD n.p z)) s:=by
     rw [hd] at hz
     subst hz
     exact Ha h1 x hi hv lR sP _ hs
    have go0 (hd:(!w.aE[j].idem && decide (0 < w.aE[j].cj) && decide (w.aE[j].cj < w.aE[j].aO)) = false) (s:St) (hs:jq s ⟨79,bR [(3,lJ x),(4,.ptr b 10 i 0),(5,.ptr b2 6 j 0)],bx⟩) :
     pw prog sF (fV prog [] (qj aD n.p z)) s:=by
     rw [hd] at hz
     subst hz
     exact Ha h x hi hv lR sP _ hs
    cases s1:w.aE[j].idem <;> by_cases s2:0 < w.aE[j].cj <;> by_cases s3:w.aE[j].cj < w.aE[j].aO <;> simp [go_sem,hf,au,cz,mT,iI,lR,s1,s2,s3]
    all_goals first
     | exact go0 (by simp [s1,s2,s3]) _ (ak (by simp [go_sem,lJ,aX,iI]))
     | (refine ar (db h 10 (by omega)) ?_
        rintro r bP ⟨rfl,v',h1⟩
        have bg:=h1.fin
        simp [go_sem,bg]
        exact go (by simp [s1,s2,s3]) h1 _ (ak (by simp [go_sem,lJ,aX,iI])))
def Em:eR:=⟨0,0,0,0⟩
def aZ (l:List Int) (n:Int):List Int:=l.filter (· != n)
def eC (w:RW) (x:Ev):RW × Bool :=
 let b:=w.ai.getD x.bk gD
 if x.kind = 3 then
  if ju w x.call x.bk then ((w.aQ x.bk { b with waits:=b.waits ++ [x.call] }).aj (decide ((w.aN.getD x.bk Em).queue < (b.waits.length + 1:Nat))) 3,true) else (w,false)
 else if x.kind = 4 then
  if x.call ∈ b.waits then (w.aQ x.bk { b with waits:=aZ b.waits x.call },true) else (w,false)
 else if x.kind = 5 then
  if x.call ∈ b.waits \/ ju w x.call x.bk then
   let w1:=(w.aj (fx w x) 9).aQ x.bk { b with waits:=aZ b.waits x.call }
   let w2:=w1.aQ x.bk { b with waits:=aZ b.waits x.call,ax:=b.ax ++ [x.call] }
   (w2.aj (decide ((w.aN.getD x.bk Em).max < rC w2 x.bk)) 2,true)
  else (w,false)
 else if x.call ∈ b.ax then (w.aQ x.bk { b with ax:=aZ b.ax x.call },true)
 else (w,false)
theorem eP.tZ {bx bx':aa} {e sz:Nat} {es:List V} {v r:V} (h:Acc bx e sz es r bx'):eP v r bx bx':=by
 have hc:∀ b,jS v bx b ≠ none -> jS v bx b = bx b:=by
  intro b hb
  unfold jS at hb ⊢
  split at hb
  ·rename_i c _ _ _
   by_cases e:b = c
   ·subst e; exact absurd (af _ _ _) hb
   ·exact ae _ _ e
  ·rfl
 refine ⟨h.fin,fun b hb=>?_,fun b sz o m e=>?_⟩
 ·rw [hc b hb]
  exact h.ext b (by rw [<- hc b hb]; exact hb)
 ·rcases h.is with ⟨_,h1⟩ | ⟨b',h1,h2,_⟩
  ·rw [h1] at e; cases e
  ·rw [h2] at e
   injection e with e
   subst e
   cases h3:jS v bx b' with
   | none=>rfl
   | some y=>rw [hc b' (by rw [h3]; simp),h1] at h3; cases h3
theorem WR.En {aD bx bx':aa} {n:RN} {w:RW} (h:WR aD n w bx) {v v':V} (hm:eP v v' bx bx') {es:List V} (hv:aY bx 2 1 es v):bx' n.bb = some (.row xY 5 (w.ai.mapIdx (eQ n.dv n.wv))) /\ bx' n.p = some (.row sH 10 [gP n w]):=by
 rw [hm.other (by rw [h.ai]; simp) (hv.ne h.ai (by decide)),hm.other (by rw [h.row]; simp) (hv.ne h.row (by decide))]
 exact ⟨h.ai,h.row⟩
theorem JS {aD bx:aa} {n:RN} {w:RW} (h:WR aD n w bx) (x:Ev) (hx:x.bk < w.ai.length) (hl:w.aI.length <= 50000) (cQ:x.bk < w.aN.length) (px:∀ b,b ∈ w.ai -> b.waits.length <= 90000 /\ b.ax.length <= 90000) (hk:x.kind = 3) :
 aw prog 127 [.ptr n.p 10 0 0,aX x] bx (fA aD n.p (eC w x)):=by
 refine xH fun hf=>?_
 have au:=h.row
 unfold gP at au
 have dm:=h.ai
 have e2:w.ai.getD x.bk gD = w.ai[x.bk]:=by simp [hx]
 have e3:w.aN.getD x.bk Em = w.aN[x.bk]:=by simp [cQ]
 obtain ⟨z,hz⟩:∃ z,eC w x = z:=⟨_,rfl⟩
 rw [hz]
 unfold eC at hz
 rw [e2,e3] at hz
 dsimp only at hz
 rw [if_pos hk] at hz
 have hw:=h.iu _ _ (List.getElem?_eq_getElem hx)
 have hq:=h.nC _ _ (List.getElem?_eq_getElem hx)
 have OU:=px _ (List.getElem_mem hx)
 have cI:=xV hw (by omega) x.call
 have cM:=GJ h x.call x.bk
 simp [go_sem,DY,hf,aX,iI,au,dm,hx,eQ,hw.strip,hw.live]
 refine ah cI ?_
 simp [go_sem,hf,hk]
 refine ah cM ?_
 cases A1:ju w x.call x.bk
 ·simp [go_sem,hf]
  exact al (by simp [go_sem]) (.of (z':=(w,false)) (by rw [<- hz]; simp [A1]) ⟨by simp [go_sem],n,rfl,h⟩)
 ·simp [go_sem,hf,dm,hx,eQ,iI,hw.strip,hw.live]
  refine dx (.int .i64 0) hw hf (news:=[iI x.call]) mS Bq (by simp [go_sem,bM,iI]) tR (by simp [go_sem]) (by decide) (by simp [FP]; omega) (by simp; omega) (by simp [go_sem]) fun v' bx' ha hm _=>?_
  have e4:w.ai[x.bk].waits.map iI ++ [iI x.call] = (w.ai[x.bk].waits ++ [x.call]).map iI:=by simp
  rw [e4] at ha
  have hn:=h.waits hx (l:=w.ai[x.bk].waits ++ [x.call]) (by simp; omega) ha hm
  obtain ⟨eK,ma⟩:=h.En hm hw
  have bg:=hm.fin
  have hlen:=fun bx2=>fW (bx2:=bx2) (t:=60) ha mS
  simp [go_sem,ha.strip,ha.live] at hlen
  have bB:n.p ≠ n.bb:=fun e=>by rw [<- e,ma] at eK; injection eK with h1; injection h1 with h1; revert h1; decide
  unfold gP at ma
  simp only [eQ,af] at hn
  by_cases c1:w.aN[x.bk].queue < (w.ai[x.bk].waits.length:Int) + 1
  ·simp [go_sem,eK,hx,eQ,ha.strip,ha.live,ha.cells,ha.okV,bg,iI,hlen,ma,ae,bB,cQ,bG,an,c1]
   refine ar (db hn 3 (by simpa using by omega)) ?_
   rintro r bx2 ⟨rfl,v2,h2⟩
   have cm:=h2.fin
   simp [go_sem,cm]
   exact al (by simp [go_sem]) (.of (z':=((w.aQ x.bk { w.ai[x.bk] with waits:=w.ai[x.bk].waits ++ [x.call] }).fault 3,true)) (by rw [<- hz]; simp [A1,RW.aj,c1]) ⟨by simp [go_sem],{ n with wv:=aB n.wv x.bk v',fv:=v2 },rfl,h2⟩)
  ·simp [go_sem,eK,hx,eQ,ha.strip,ha.live,ha.cells,ha.okV,bg,iI,hlen,ma,ae,bB,cQ,bG,an,c1]
   exact al (by simp [go_sem]) (.of (z':=(w.aQ x.bk { w.ai[x.bk] with waits:=w.ai[x.bk].waits ++ [x.call] },true)) (by rw [<- hz]; simp [A1,RW.aj,c1]) ⟨by simp [go_sem],{ n with wv:=aB n.wv x.bk v' },rfl,hn⟩)
theorem JT {aD bx:aa} {n:RN} {w:RW} (h:WR aD n w bx) (x:Ev) (hx:x.bk < w.ai.length) (hk:x.kind = 4) :
 aw prog 127 [.ptr n.p 10 0 0,aX x] bx (fA aD n.p (eC w x)):=by
 refine xH fun hf=>?_
 have au:=h.row
 unfold gP at au
 have dm:=h.ai
 have e2:w.ai.getD x.bk gD = w.ai[x.bk]:=by simp [hx]
 obtain ⟨z,hz⟩:∃ z,eC w x = z:=⟨_,rfl⟩
 rw [hz]
 unfold eC at hz
 rw [e2] at hz
 dsimp only at hz
 rw [if_neg (by omega),if_pos hk] at hz
 have hw:=h.iu _ _ (List.getElem?_eq_getElem hx)
 have OU:=h.sm.2.2.2.2 _ (List.getElem_mem hx)
 have cI:=xV hw (by omega) x.call
 have gI:=oU w.ai[x.bk].waits x.call
 simp [go_sem,DY,hf,aX,iI,au,dm,hx,eQ,hw.strip,hw.live]
 refine ah cI ?_
 by_cases c1:x.call ∈ w.ai[x.bk].waits
 ·have k1:=gI.2 c1
  simp [go_sem,hf,hk,k1]
  refine DZ ?_
  simp [go_sem,xF,hf,dm,hx,eQ,iI,hw.strip,hw.live]
  refine iL (kY hw (by omega) x.call) (mU hf _ _ _) ?_
  intro v' bx' fI
  have hm:eP (n.wv x.bk) v' bx bx':=.tZ fI
  have ha:=aY.of fI
  have hn:=h.waits hx (l:=aZ w.ai[x.bk].waits x.call) (by have:=List.length_filter_le (· != x.call) w.ai[x.bk].waits; unfold aZ; omega) ha hm
  obtain ⟨eK,ma⟩:=h.En hm hw
  have bg:=hm.fin
  simp only [eQ,af] at hn
  simp [go_sem,eK,hx,eQ,ha.strip,ha.live,ha.cells,ha.okV,bg,iI,an]
  exact al (by simp [go_sem]) (.of (z':=(w.aQ x.bk { w.ai[x.bk] with waits:=aZ w.ai[x.bk].waits x.call },true)) (by rw [<- hz]; simp [c1]) ⟨by simp [go_sem],{ n with wv:=aB n.wv x.bk v' },rfl,hn⟩)
 ·have k1:¬ 0 <= sG w.ai[x.bk].waits x.call:=fun h=>c1 (gI.1 h)
  simp [go_sem,hf,hk,k1]
  exact al (by simp [go_sem]) (.of (z':=(w,false)) (by rw [<- hz]; simp [c1]) ⟨by simp [go_sem],n,rfl,h⟩)
theorem JU {aD bx:aa} {n:RN} {w:RW} (h:WR aD n w bx) (x:Ev) (hx:x.bk < w.ai.length) (hk:x.kind = 6) :
 aw prog 127 [.ptr n.p 10 0 0,aX x] bx (fA aD n.p (eC w x)):=by
 refine xH fun hf=>?_
 have au:=h.row
 unfold gP at au
 have dm:=h.ai
 have e2:w.ai.getD x.bk gD = w.ai[x.bk]:=by simp [hx]
 obtain ⟨z,hz⟩:∃ z,eC w x = z:=⟨_,rfl⟩
 rw [hz]
 unfold eC at hz
 rw [e2] at hz
 dsimp only at hz
 rw [if_neg (by omega),if_neg (by omega),if_neg (by omega)] at hz
 have hw:=h.iu _ _ (List.getElem?_eq_getElem hx)
 have hq:=h.nC _ _ (List.getElem?_eq_getElem hx)
 have OU:=h.sm.2.2.2.2 _ (List.getElem_mem hx)
 have cI:=xV hw (by omega) x.call
 have cD:=xV hq (by omega) x.call
 have gI:=oU w.ai[x.bk].ax x.call
 simp [go_sem,DY,hf,aX,iI,au,dm,hx,eQ,hw.strip,hw.live]
 refine ah cI ?_
 simp [go_sem,hf,hk,dm,hx,eQ,iI,hq.strip,hq.live]
 refine ah cD ?_
 by_cases c1:x.call ∈ w.ai[x.bk].ax
 ·have k1:=gI.2 c1
  have k2:¬ sG w.ai[x.bk].ax x.call < 0:=by omega
  simp [go_sem,hf,hk,k2]
  refine G9 ?_
  simp [go_sem,Bt,hf,dm,hx,eQ,iI,hq.strip,hq.live]
  refine iL (kY hq (by omega) x.call) (mU hf _ _ _) ?_
  intro v' bx' fI
  have hm:eP (n.dv x.bk) v' bx bx':=.tZ fI
  have ha:=aY.of fI
  have hn:=h.ax hx (l:=aZ w.ai[x.bk].ax x.call) (by have:=List.length_filter_le (· != x.call) w.ai[x.bk].ax; unfold aZ; omega) ha hm
  obtain ⟨eK,ma⟩:=h.En hm hq
  have bg:=hm.fin
  simp only [eQ,af] at hn
  simp [go_sem,eK,hx,eQ,ha.strip,ha.live,ha.cells,ha.okV,bg,iI,an]
  exact al (by simp [go_sem]) (.of (z':=(w.aQ x.bk { w.ai[x.bk] with ax:=aZ w.ai[x.bk].ax x.call },true)) (by rw [<- hz]; simp [c1]) ⟨by simp [go_sem],{ n with dv:=aB n.dv x.bk v' },rfl,hn⟩)
 ·have k1:sG w.ai[x.bk].ax x.call < 0:=by
   rcases Int.lt_or_le (sG w.ai[x.bk].ax x.call) 0 with h | h
   ·exact h
   ·exact absurd (gI.1 h) c1
  simp [go_sem,hf,hk,k1]
  exact al (by simp [go_sem]) (.of (z':=(w,false)) (by rw [<- hz]; simp [c1]) ⟨by simp [go_sem],n,rfl,h⟩)
theorem sQ {aD bx:aa} {n:RN} {w:RW} (h:WR aD n w bx) (x:Ev) (hx:x.bk < w.ai.length) (hl:w.aI.length <= 50100) (cQ:x.bk < w.aN.length) (px:∀ b,b ∈ w.ai -> b.waits.length <= 90000 /\ b.ax.length <= 90000)
 {Q:Exit -> St -> Prop} {w2:RW} (jI:w2 = w.aQ x.bk { w.ai[x.bk] with waits:=aZ w.ai[x.bk].waits x.call,ax:=w.ai[x.bk].ax ++ [x.call] })
 (hQ:∀ l bx' n',n'.p = n.p -> WR aD n' (w2.aj (decide ((w.aN[x.bk]).max < rC w2 x.bk)) 2) bx' -> Q .normal ⟨150,bR l,bx'⟩) (s:St) (hs:jq s ⟨150,bR [(0,.ptr n.p 10 0 0),(3,lJ x),(5,.ptr n.bb 5 x.bk 0)],bx⟩) :
 pw prog zE Q s:=by
 have hf:=h.fin
 have au:=h.row
 unfold gP at au
 have dm:=h.ai
 have hw:=h.iu _ _ (List.getElem?_eq_getElem hx)
 have OU:=h.sm.2.2.2.2 _ (List.getElem_mem hx)
 have af2:=px _ (List.getElem_mem hx)
 refine j0 hs ?_
 simp [go_sem]
 refine Ea ?_
 simp [go_sem,xG,hf,dm,hx,eQ,iI,hw.strip,hw.live,lJ,aX]
 refine iL (kY hw (by omega) x.call) (mU hf _ _ _) ?_
 intro v' bx' fI
 have hm:eP (n.wv x.bk) v' bx bx':=.tZ fI
 have ha:=aY.of fI
 have hn:=h.waits hx (l:=aZ w.ai[x.bk].waits x.call) (by have:=List.length_filter_le (· != x.call) w.ai[x.bk].waits; unfold aZ; omega) ha hm
 obtain ⟨eK,ma⟩:=h.En hm hw
 have bg:=hm.fin
 have iH:x.bk < (w.ai.set x.bk { w.ai[x.bk] with waits:=aZ w.ai[x.bk].waits x.call }).length:=by simpa using hx
 simp only [eQ,af,iI] at hn
 simp [go_sem,eK,hx,eQ,ha.strip,ha.live,ha.cells,ha.okV,bg,iI,an]
 have cm:=hn.fin
 generalize (aB bx' n.bb (some (bF.row xY 5 ((w.ai.mapIdx (eQ n.dv n.wv)).set x.bk (V.agg [V.bool w.ai[x.bk].down,V.int .i64 w.ai[x.bk].gV,V.int .i64 w.ai[x.bk].aM,n.dv x.bk,v']))))) = bx2 at *
 have hq:aY bx2 2 1 (w.ai[x.bk].ax.map iI) (n.dv x.bk):=by simpa using hn.nC _ _ (List.getElem?_eq_getElem iH)
 refine dx (.int .i64 0) hq cm (news:=[iI x.call]) mS Bq (by simp [go_sem,bM,iI]) tR (by simp [go_sem]) (by decide) (by simp [FP]; omega) (by simp; omega) (by simp [go_sem]) fun v2 bx3 FE PX _=>?_
 have e4:w.ai[x.bk].ax.map iI ++ [iI x.call] = (w.ai[x.bk].ax ++ [x.call]).map iI:=by simp
 rw [e4] at FE
 have uN:=hn.ax iH (l:=w.ai[x.bk].ax ++ [x.call]) (by simp; omega) FE PX
 obtain ⟨nU,DW⟩:bx3 n.bb = bx2 n.bb /\ bx3 n.p = bx2 n.p:=by
  have k1:bx2 n.bb = _:=hn.ai
  have k2:bx2 n.p = _:=hn.row
  exact ⟨PX.other (by rw [k1]; simp) (hq.ne k1 (by decide)),PX.other (by rw [k2]; simp) (hq.ne k2 (by decide))⟩
 have lU:=PX.fin
 have cz:bx2 n.bb = some (.row xY 5 ((w.ai.set x.bk { w.ai[x.bk] with waits:=aZ w.ai[x.bk].waits x.call }).mapIdx (eQ n.dv (aB n.wv x.bk v')))):=hn.ai
 rw [cz] at nU
 simp [go_sem,nU,hx,eQ,FE.strip,FE.live,FE.cells,FE.okV,lU,iI,an]
 have Xh:WR aD { n with wv:=aB n.wv x.bk v',dv:=aB n.dv x.bk v2 } w2 (aB bx3 n.bb (some (.row xY 5 ((w.ai.mapIdx (eQ n.dv (aB n.wv x.bk v'))).set x.bk (V.agg [V.bool w.ai[x.bk].down,V.int .i64 w.ai[x.bk].gV,V.int .i64 w.ai[x.bk].aM,v2,aB n.wv x.bk v' x.bk]))))):=by
  subst jI
  simpa [eQ,iI,RW.aQ,af] using uN
 have iS:w2.ai.length = w.ai.length /\ w2.aN = w.aN /\ w2.aI = w.aI:=by subst jI; simp [RW.aQ]
 have cM:=O6 Xh x.bk (by omega)
 have oA:=Xh.row
 unfold gP at oA
 rw [iS.2.1] at oA
 have lI:=Xh.fin
 generalize (aB bx3 n.bb (some (bF.row xY 5 ((w.ai.mapIdx (eQ n.dv (aB n.wv x.bk v'))).set x.bk (V.agg [V.bool w.ai[x.bk].down,V.int .i64 w.ai[x.bk].gV,V.int .i64 w.ai[x.bk].aM,v2,aB n.wv x.bk v' x.bk]))))) = bx4 at *
 refine ah cM ?_
 by_cases c1:w.aN[x.bk].max < rC w2 x.bk
 ·simp [go_sem,lI,oA,cQ,bG,iI,c1]
  refine ar (db Xh 2 (by rw [iS.2.2]; omega)) ?_
  rintro r jt ⟨rfl,v5,h5⟩
  have nG:=h5.fin
  simp [go_sem,nG]
  exact hQ _ _ { n with wv:=aB n.wv x.bk v',dv:=aB n.dv x.bk v2,fv:=v5 } rfl (by simpa [RW.aj,RW.fault,c1] using h5)
 ·simp [go_sem,lI,oA,cQ,bG,iI,c1]
  exact hQ _ _ { n with wv:=aB n.wv x.bk v',dv:=aB n.dv x.bk v2 } rfl (by simpa [RW.aj,RW.fault,c1] using Xh)
theorem JV {aD bx:aa} {n:RN} {w:RW} (h:WR aD n w bx) (x:Ev) (hx:x.bk < w.ai.length) (hl:w.aI.length <= 50000) (cQ:x.bk < w.aN.length) (px:∀ b,b ∈ w.ai -> b.waits.length <= 90000 /\ b.ax.length <= 90000) (hk:x.kind = 5) :
 aw prog 127 [.ptr n.p 10 0 0,aX x] bx (fA aD n.p (eC w x)):=by
 refine xH fun hf=>?_
 have au:=h.row
 unfold gP at au
 have dm:=h.ai
 have e2:w.ai.getD x.bk gD = w.ai[x.bk]:=by simp [hx]
 have e3:w.aN.getD x.bk Em = w.aN[x.bk]:=by simp [cQ]
 obtain ⟨z,hz⟩:∃ z,eC w x = z:=⟨_,rfl⟩
 rw [hz]
 unfold eC at hz
 rw [e2,e3] at hz
 dsimp only at hz
 rw [if_neg (by omega),if_neg (by omega),if_pos hk] at hz
 have hw:=h.iu _ _ (List.getElem?_eq_getElem hx)
 have OU:=h.sm.2.2.2.2 _ (List.getElem_mem hx)
 have cI:=xV hw (by omega) x.call
 have cM:=GJ h x.call x.bk
 have cO:=rB h x hx
 have gI:=oU w.ai[x.bk].waits x.call
 have evf:V.agg [V.int .i64 x.kind,V.int .i64 x.bk,V.int .i64 x.t,V.int .i64 x.call,V.int .i64 x.conn,V.int .i64 x.kf,V.int .i64 x.n,V.bool x.yes] = aX x:=rfl
 simp [go_sem,DY,hf,aX,iI,au,dm,hx,eQ,hw.strip,hw.live]
 refine ah cI ?_
 have evg:V.agg [V.int .i64 5,V.int .i64 x.bk,V.int .i64 x.t,V.int .i64 x.call,V.int .i64 x.conn,V.int .i64 x.kf,V.int .i64 x.n,V.bool x.yes] = aX x:=by simp [aX,iI,hk]
 by_cases c1:x.call ∈ w.ai[x.bk].waits \/ ju w x.call x.bk = true
 ·rw [if_pos c1] at hz
  have key:z = (((w.aj (fx w x) 9).aQ x.bk { w.ai[x.bk] with waits:=aZ w.ai[x.bk].waits x.call,ax:=w.ai[x.bk].ax ++ [x.call] }).aj (decide (w.aN[x.bk].max < rC ((w.aj (fx w x) 9).aQ x.bk { w.ai[x.bk] with waits:=aZ w.ai[x.bk].waits x.call,ax:=w.ai[x.bk].ax ++ [x.call] }) x.bk)) 2,true):=by
   rw [<- hz]
   simp only [RW.aQ,List.set_set]
   cases fx w x <;> simp [RW.aj,RW.fault]
  by_cases c2:x.call ∈ w.ai[x.bk].waits
  ·have k1:=gI.2 c2
   simp [go_sem,hf,hk,k1]
   refine js (.bool false) (by simp [go_sem]) ?_
   simp [go_sem,hf]
   rw [evg]
   refine ah cO ?_
   cases ho:fx w x
   ·simp [go_sem,hf]
    refine sQ h x hx (by omega) cQ px rfl (fun l bx' n' hp hn=>?_) _ (ak (by simp [go_sem,lJ,aX,iI]))
    have JW:=hn.fin
    rw [ho] at key
    simp [go_sem,JW]
    exact al (by simp [go_sem]) (.of key ⟨by simp [go_sem],n',hp,hn⟩)
   ·simp [go_sem,hf]
    refine ar (db h 9 (by omega)) ?_
    rintro r bP ⟨rfl,v1,h1⟩
    have bg:=h1.fin
    simp [go_sem,bg]
    refine sQ h1 x hx (by simp; omega) cQ px rfl (fun l bx' n' hp hn=>?_) _ (ak (by simp [go_sem,lJ,aX,iI]))
    have JW:=hn.fin
    rw [ho] at key
    simp [go_sem,JW]
    exact al (by simp [go_sem]) (.of key ⟨by simp [go_sem],n',hp,hn⟩)
  ·have k1:¬ 0 <= sG w.ai[x.bk].waits x.call:=fun h=>c2 (gI.1 h)
   have A1:=c1.resolve_left c2
   rw [A1] at cM
   simp [go_sem,hf,hk,k1]
   refine dI cM (by simp) (by simp [go_sem]) ?_
   simp [go_sem,hf]
   rw [evg]
   refine ah cO ?_
   cases ho:fx w x
   ·simp [go_sem,hf]
    refine sQ h x hx (by omega) cQ px rfl (fun l bx' n' hp hn=>?_) _ (ak (by simp [go_sem,lJ,aX,iI]))
    have JW:=hn.fin
    rw [ho] at key
    simp [go_sem,JW]
    exact al (by simp [go_sem]) (.of key ⟨by simp [go_sem],n',hp,hn⟩)
   ·simp [go_sem,hf]
    refine ar (db h 9 (by omega)) ?_
    rintro r bP ⟨rfl,v1,h1⟩
    have bg:=h1.fin
    simp [go_sem,bg]
    refine sQ h1 x hx (by simp; omega) cQ px rfl (fun l bx' n' hp hn=>?_) _ (ak (by simp [go_sem,lJ,aX,iI]))
    have JW:=hn.fin
    rw [ho] at key
    simp [go_sem,JW]
    exact al (by simp [go_sem]) (.of key ⟨by simp [go_sem],n',hp,hn⟩)
 ·rw [if_neg c1] at hz
  obtain ⟨c2,c3⟩:=not_or.1 c1
  have k1:¬ 0 <= sG w.ai[x.bk].waits x.call:=fun h=>c2 (gI.1 h)
  rw [Bool.not_eq_true] at c3
  rw [c3] at cM
  simp [go_sem,hf,hk,k1]
  refine dI cM (by simp) (by simp [go_sem]) ?_
  simp [go_sem,hf]
  exact al (by simp [go_sem]) (.of hz.symm ⟨by simp [go_sem],n,rfl,h⟩)
theorem aY.ext {bx bx':aa} {e sz:Nat} {es:List V} {v:V} (h:aY bx e sz es v) (he:Ext bx bx'):aY bx' e sz es v:=by
 rcases h with h | ⟨b,h1,h2⟩
 ·exact .inl h
 ·exact .inr ⟨b,h1,by rw [he b (by rw [h2]; simp),h2]⟩
theorem Ext.trans' {a b c:aa} (h:Ext a b) (h':Ext b c):Ext a c:=fun x hx=>by rw [h' x (by rw [h x hx]; exact hx),h x hx]
theorem WR.mono {aD bx bx':aa} {n:RN} {w:RW} (h:WR aD n w bx) (he:Ext bx bx') (hf:ba bx'):WR aD n w bx' :=
 ⟨hf,Ext.trans' h.ext he,h.np,h.nb,h.nc,h.nr,h.nf,h.nd,h.nw,by rw [he _ (by rw [h.row]; simp)]; exact h.row,by rw [he _ (by rw [h.ai]; simp)]; exact h.ai,h.aq.ext he,h.aE.ext he,h.aI.ext he,fun i b hi=>(h.nC i b hi).ext he,fun i b hi=>(h.iu i b hi).ext he,h.dd,h.ww,h.dw,h.sm⟩
theorem CR {bx:aa} {b:Nat} (hb:bx b = none) (x:Option bF):Ext bx (aB bx b x):=fun c hc=>ae _ _ (by rintro rfl; exact hc hb)
def qk (w:RW) (x:Ev):RW × Bool :=
 let b:=w.ai.getD x.bk gD
 if x.call ∈ b.ax then
  if w.aq.any (fun c=>c.num == x.conn) then (w,false)
  else
   let w1:=w.aQ x.bk { b with ax:=aZ b.ax x.call }
   ({ w1 with aq:=w1.aq ++ [if x.yes then ⟨x.conn,x.bk,1,x.call,w.now,0,0,1,0,0⟩ else ⟨x.conn,x.bk,3,0,w.now,0,0,0,0,0⟩] },true)
 else (w,false)
theorem JX {aD bx:aa} {n:RN} {w:RW} (h:WR aD n w bx) (x:Ev) (hl:w.aq.length <= 90000) {b:Nat} (hb:bx b = none) (s:St) (hs:jq s ⟨79,bR [(0,.ptr n.p 10 0 0),(3,lJ x),(7,.ptr b 10 0 0)],aB bx b (some (.row CG 10 [jl ⟨x.conn,x.bk,3,0,w.now,0,0,0,0,0⟩]))⟩) :
 pw prog CB (fV prog [.tmp 4] (fA aD n.p ({ w with aq:=w.aq ++ [if x.yes then ⟨x.conn,x.bk,1,x.call,w.now,0,0,1,0,0⟩ else ⟨x.conn,x.bk,3,0,w.now,0,0,0,0,0⟩] },true))) s:=by
 have hf:=h.fin
 obtain ⟨c1,nt⟩:∃ c:RC,c = if x.yes then ⟨x.conn,x.bk,1,x.call,w.now,0,0,1,0,0⟩ else ⟨x.conn,x.bk,3,0,w.now,0,0,0,0,0⟩:=⟨_,rfl⟩
 rw [<- nt]
 obtain ⟨z,hz⟩:∃ z,({ w with aq:=w.aq ++ [c1] },true) = (z:RW × Bool):=⟨_,rfl⟩
 rw [hz]
 refine j0 hs ?_
 have go (c:RC):WR aD n w (aB bx b (some (.row CG 10 [jl c]))):=h.mono (CR hb _) ((an _ _ _).2 hf)
 cases hy:x.yes
 ·rw [hy] at nt
  have h1:=go ⟨x.conn,x.bk,3,0,w.now,0,0,0,0,0⟩
  have eK:aB bx b (some (.row CG 10 [jl ⟨x.conn,x.bk,3,0,w.now,0,0,0,0,0⟩])) b = _:=af _ _ _
  generalize aB bx b (some (.row CG 10 [jl ⟨x.conn,x.bk,3,0,w.now,0,0,0,0,0⟩])) = bP at *
  have bg:=h1.fin
  have au:=h1.row
  unfold gP at au
  simp [go_sem,bg,eK,au,lJ,aX,iI,hy,jl]
  refine dx (.agg #[.int .i64 0,.int .i64 0,.int .i64 0,.int .i64 0,.int .i64 0,.int .i64 0,.int .i64 0,.int .i64 0,.int .i64 0,.int .i64 0]) h1.aq bg (news:=[jl c1]) xA FX (by simp [go_sem,bM,jl,iI,nt]) zA (by simp [go_sem]) (by decide) (by simp [FY]; omega) (by simp; omega) (by simp [go_sem]) fun v' bx' ha hm _=>?_
  have hn:=h1.GK (f:=c1) (by omega) ha hm
  have hp:bx' n.p = some (.row sH 10 [gP n w]):=by rw [hm.other (by rw [h1.row]; simp) (h1.aq.ne h1.row (by decide)),h1.row]
  unfold gP at hp
  simp [go_sem,hp,ha.strip,ha.live,ha.cells,ha.okV,hm.fin,iI]
  exact al (by simp [go_sem]) (.of hz.symm ⟨by simp [go_sem],{ n with cv:=v' },rfl,hn⟩)
 ·rw [hy] at nt
  have dH:aB bx b (some (.row CG 10 [jl ⟨x.conn,x.bk,3,0,w.now,0,0,0,0,0⟩])) b = _:=af _ _ _
  have hf0:=(go ⟨x.conn,x.bk,3,0,w.now,0,0,0,0,0⟩).fin
  simp [go_sem,hf,dH,lJ,aX,iI,hy,jl]
  refine ⟨by simp [jd,lB,mh,jT],?_⟩
  have h1:=go ⟨x.conn,x.bk,1,x.call,w.now,0,0,1,0,0⟩
  simp only [jl,iI] at h1
  have eK:=af bx b (some (bF.row CG 10 [V.agg [V.int .i64 x.conn,V.int .i64 x.bk,V.int .i64 1,V.int .i64 x.call,V.int .i64 w.now,V.int .i64 0,V.int .i64 0,V.int .i64 1,V.int .i64 0,V.int .i64 0]]))
  generalize aB bx b (some (bF.row CG 10 [V.agg [V.int .i64 x.conn,V.int .i64 x.bk,V.int .i64 1,V.int .i64 x.call,V.int .i64 w.now,V.int .i64 0,V.int .i64 0,V.int .i64 1,V.int .i64 0,V.int .i64 0]])) = bP at *
  have bg:=h1.fin
  have au:=h1.row
  unfold gP at au
  simp [go_sem,bg,eK,au,lJ,aX,iI,hy,jl]
  refine dx (.agg #[.int .i64 0,.int .i64 0,.int .i64 0,.int .i64 0,.int .i64 0,.int .i64 0,.int .i64 0,.int .i64 0,.int .i64 0,.int .i64 0]) h1.aq bg (news:=[jl c1]) xA FX (by simp [go_sem,bM,jl,iI,nt]) zA (by simp [go_sem]) (by decide) (by simp [FY]; omega) (by simp; omega) (by simp [go_sem]) fun v' bx' ha hm _=>?_
  have hn:=h1.GK (f:=c1) (by omega) ha hm
  have hp:bx' n.p = some (.row sH 10 [gP n w]):=by rw [hm.other (by rw [h1.row]; simp) (h1.aq.ne h1.row (by decide)),h1.row]
  unfold gP at hp
  simp [go_sem,hp,ha.strip,ha.live,ha.cells,ha.okV,hm.fin,iI]
  exact al (by simp [go_sem]) (.of hz.symm ⟨by simp [go_sem],{ n with cv:=v' },rfl,hn⟩)
theorem OV {aD bx:aa} {n:RN} {w:RW} (h:WR aD n w bx) (x:Ev) (hx:x.bk < w.ai.length) (hl:w.aq.length <= 90000) :
 aw prog 128 [.ptr n.p 10 0 0,aX x] bx (fA aD n.p (qk w x)):=by
 refine Oe fun hf=>?_
 have au:=h.row
 unfold gP at au
 have dm:=h.ai
 have e2:w.ai.getD x.bk gD = w.ai[x.bk]:=by simp [hx]
 obtain ⟨z,hz⟩:∃ z,qk w x = z:=⟨_,rfl⟩
 rw [hz]
 unfold qk at hz
 rw [e2] at hz
 dsimp only at hz
 have hw:=h.nC _ _ (List.getElem?_eq_getElem hx)
 have OU:=h.sm.2.2.2.2 _ (List.getElem_mem hx)
 have cI:=xV hw (by omega) x.call
 have gI:=oU w.ai[x.bk].ax x.call
 simp [go_sem,Od,hf,aX,iI,au,dm,hx,eQ,hw.strip,hw.live]
 refine ah cI ?_
 by_cases c1:x.call ∈ w.ai[x.bk].ax
 ·have k1:=gI.2 c1
  have k2:¬ sG w.ai[x.bk].ax x.call < 0:=by omega
  rw [if_pos c1] at hz
  simp [go_sem,hf,k2]
  have hlen:=fun bx2=>fW (bx2:=bx2) (t:=100) h.aq xA
  simp [go_sem,h.aq.strip,h.aq.live] at hlen
  have GH:=h.sm
  refine eG w.aq.length (vc w.aq (fun c=>c.num == x.conn)) (fun j=>⟨79,bR [(0,.ptr n.p 10 0 0),(3,lJ x),(5,.ptr n.bb 5 x.bk 0),(6,.int .i64 j)],bx⟩) (ak (by simp [go_sem,lJ,aX,iI])) (fun j hj hJ N hN=>?_) (fun hJ N=>?_)
  ·have hw:=bj (k:=j) (by omega)
   obtain ⟨b,hv,hb⟩:=h.aq.at (by simpa using by omega)
   rw [hv] at au
   simp at au
   rw [kx hj] at hN
   have hs:=fun hh=>any_some (p:=fun c:RC=>c.num == x.conn) hj hh
   by_cases c3:w.aq[j].num = x.conn
   ·simp [go_sem,xI,hj,hf,hw,au,hb,jl,iI,c3,lJ,aX]
    exact al (by simp [go_sem]) (.of (z':=(w,false)) (by rw [<- hz,hs (by simp [c3])]; rfl) ⟨by simp [go_sem],n,rfl,h⟩)
   ·simp [go_sem,xI,hj,hf,hw,au,hb,jl,iI,c3,lJ,aX]
    exact hN _ (by simp [c3]) (ak (by simp [go_sem,lJ,aX,iI]))
  ·have h0:=any_none hJ
   rw [h0] at hz
   simp [go_sem,xI,hf,au,hlen,h.aq.strip,h.aq.live]
   refine GA ?_
   simp [go_sem,Bu,hf,dm,hx,eQ,iI,hw.strip,hw.live,lJ,aX]
   refine iL (kY hw (by omega) x.call) (mU hf _ _ _) ?_
   intro v' bx' fI
   have hm:eP (n.dv x.bk) v' bx bx':=.tZ fI
   have ha:=aY.of fI
   have hn:=h.ax hx (l:=aZ w.ai[x.bk].ax x.call) (by have:=List.length_filter_le (· != x.call) w.ai[x.bk].ax; unfold aZ; omega) ha hm
   obtain ⟨eK,ma⟩:=h.En hm hw
   have bg:=hm.fin
   simp only [eQ,af,iI] at hn
   simp [go_sem,eK,hx,eQ,ha.strip,ha.live,ha.cells,ha.okV,bg,iI,an]
   have cm:=hn.fin
   have fO:=hn.row
   unfold gP at fO
   simp only [] at fO
   generalize (aB bx' n.bb (some (bF.row xY 5 ((w.ai.mapIdx (eQ n.dv n.wv)).set x.bk (V.agg [V.bool w.ai[x.bk].down,V.int .i64 w.ai[x.bk].gV,V.int .i64 w.ai[x.bk].aM,v',n.wv x.bk]))))) = bx2 at *
   simp [go_sem,cm,fO,iI]
   intro b hb
   rw [if_neg (by simp)] at hz
   subst hz
   exact JX hn x (by simpa using hl) hb _ (ak (by simp [go_sem,lJ,aX,iI,jl]))
 ·have k1:sG w.ai[x.bk].ax x.call < 0:=by
   rcases Int.lt_or_le (sG w.ai[x.bk].ax x.call) 0 with h | h
   ·exact h
   ·exact absurd (gI.1 h) c1
  rw [if_neg c1] at hz
  simp [go_sem,hf,k1]
  exact al (by simp [go_sem]) (.of hz.symm ⟨by simp [go_sem],n,rfl,h⟩)
def lK (w:RW) (x:Ev):RW × Bool :=
 let b:=w.ai.getD x.bk gD
 if x.call ∈ b.waits \/ ju w x.call x.bk then
  match eX w x.conn x.bk with
  | none=>(w.fault 4,true)
  | some i =>
    let c:=w.aq.getD i yF
    if c.st = 4 then (w.fault 4,true)
    else if c.st = 1 then (w.fault 1,true)
    else
     let m:=w.aN.getD x.bk Em
     let w1:=w.aj (fx w x) 9
     let w2:=w1.aj (decide (m.xU <= cH (w.now - c.born)) || (decide (c.st = 2) && decide (m.idle <= cH (w.now - c.since)))) 5
     ((w2.aQ x.bk { b with waits:=aZ b.waits x.call }).bh i { c with st:=1,call:=x.call,bt:=cH (c.bt + 1) },true)
 else (w,false)
theorem zV {aD bx:aa} {n:RN} {w:RW} (h:WR aD n w bx) (x:Ev) (hx:x.bk < w.ai.length) {i:Nat} (hi:i < w.aq.length) {b:Nat} (hv:n.cv = .own b 10 0 w.aq.length) (s:St) (hs:jq s ⟨131,bR [(3,lJ x),(5,.ptr n.bb 5 x.bk 0),(6,.ptr b 10 i 0)],bx⟩) :
 pw prog CC (fV prog [.tmp 4] (fA aD n.p ((w.aQ x.bk { w.ai[x.bk] with waits:=aZ w.ai[x.bk].waits x.call }).bh i { w.aq[i] with st:=1,call:=x.call,bt:=cH (w.aq[i].bt + 1) },true))) s:=by
 have hf:=h.fin
 have dm:=h.ai
 have hw:=h.iu _ _ (List.getElem?_eq_getElem hx)
 have OU:=h.sm.2.2.2.2 _ (List.getElem_mem hx)
 obtain ⟨z,hz⟩:∃ z,(((w.aQ x.bk { w.ai[x.bk] with waits:=aZ w.ai[x.bk].waits x.call }).bh i { w.aq[i] with st:=1,call:=x.call,bt:=cH (w.aq[i].bt + 1) },true):RW × Bool) = z:=⟨_,rfl⟩
 rw [hz]
 refine j0 hs ?_
 simp [go_sem]
 refine Eb ?_
 simp [go_sem,xJ,hf,dm,hx,eQ,iI,hw.strip,hw.live,lJ,aX]
 refine iL (kY hw (by omega) x.call) (mU hf _ _ _) ?_
 intro v' bx' fI
 have hm:eP (n.wv x.bk) v' bx bx':=.tZ fI
 have ha:=aY.of fI
 have hn:=h.waits hx (l:=aZ w.ai[x.bk].waits x.call) (by have:=List.length_filter_le (· != x.call) w.ai[x.bk].waits; unfold aZ; omega) ha hm
 obtain ⟨eK,ma⟩:=h.En hm hw
 have bg:=hm.fin
 simp only [eQ,af,iI] at hn
 simp [go_sem,eK,hx,eQ,ha.strip,ha.live,ha.cells,ha.okV,bg,iI,an]
 have cm:=hn.fin
 have cz:=hn.CO hv
 generalize (aB bx' n.bb (some (bF.row xY 5 ((w.ai.mapIdx (eQ n.dv n.wv)).set x.bk (V.agg [V.bool w.ai[x.bk].down,V.int .i64 w.ai[x.bk].gV,V.int .i64 w.ai[x.bk].aM,n.dv x.bk,v']))))) = bx2 at *
 simp only [] at cz
 simp [go_sem,cm,cz,hi,iI,jl]
 refine ⟨by simp [jd,lB,mh,jT],?_⟩
 exact al (by simp [go_sem]) (.of hz.symm ⟨by simp [go_sem],{ n with wv:=aB n.wv x.bk v' },rfl,hn.lF hv cz i { w.aq[i] with st:=1,call:=x.call,bt:=cH (w.aq[i].bt + 1) }⟩)
theorem zW {aD bx:aa} {n:RN} {w:RW} (h:WR aD n w bx) (x:Ev) (hx:x.bk < w.ai.length) (cQ:x.bk < w.aN.length) (hl:w.aI.length <= 60000) {i:Nat} (hi:i < w.aq.length) {b:Nat} (hv:n.cv = .own b 10 0 w.aq.length)
 {z:RW × Bool} (hz:z = (((w.aj (decide (w.aN[x.bk].xU <= cH (w.now - w.aq[i].born)) || (decide (w.aq[i].st = 2) && decide (w.aN[x.bk].idle <= cH (w.now - w.aq[i].since)))) 5).aQ x.bk { w.ai[x.bk] with waits:=aZ w.ai[x.bk].waits x.call }).bh i { w.aq[i] with st:=1,call:=x.call,bt:=cH (w.aq[i].bt + 1) },true))
 (s:St) (hs:jq s ⟨131,bR [(0,.ptr n.p 10 0 0),(3,lJ x),(5,.ptr n.bb 5 x.bk 0),(6,.ptr b 10 i 0)],bx⟩) :
 pw prog CD (fV prog [.tmp 4] (fA aD n.p z)) s:=by
 have hf:=h.fin
 have au:=h.row
 unfold gP at au
 refine j0 hs ?_
 simp [go_sem,hf,au,cQ,bG,lJ,aX,iI]
 intro b2 cz
 have h1:WR aD n w (aB bx b2 (some (.row 111 4 [bG w.aN[x.bk]]))):=h.mono (CR cz _) ((an _ _ _).2 hf)
 have Ct:=af bx b2 (some (bF.row 111 4 [bG w.aN[x.bk]]))
 simp only [bG,iI] at h1 Ct
 generalize aB bx b2 (some (bF.row 111 4 [V.agg [V.int .i64 w.aN[x.bk].max,V.int .i64 w.aN[x.bk].queue,V.int .i64 w.aN[x.bk].idle,V.int .i64 w.aN[x.bk].xU]])) = bP at *
 have bg:=h1.fin
 have fN:=h1.row
 unfold gP at fN
 have eK:=h1.CO hv
 have ja:∀ a:Int,IntKind.i64.wrap a = cH a:=fun a=>rfl
 by_cases c1:w.aN[x.bk].xU <= cH (w.now - w.aq[i].born) <;> by_cases c2:w.aq[i].st = 2 <;> by_cases c3:w.aN[x.bk].idle <= cH (w.now - w.aq[i].since) <;> simp [go_sem,bg,fN,eK,Ct,hi,jl,iI,ja,c1,c2,c3]
 all_goals first
  | (refine ar (db h1 5 (by omega)) ?_
     rintro r bx2 ⟨rfl,v',h2⟩
     have cm:=h2.fin
     simp [go_sem,cm]
     rw [hz]
     simp only [c1,c2,c3,decide_true,decide_false,Bool.true_or,Bool.or_true,Bool.and_true,Bool.true_and,Bool.or_self,RW.aj,if_true,Bool.false_or]
     exact zV h2 x hx hi hv _ (ak (by simp [go_sem,lJ,aX,iI])))
  | (rw [hz]
     simp only [c1,c2,c3,decide_true,decide_false,Bool.false_or,Bool.and_false,Bool.false_and,Bool.or_self,RW.aj,Bool.false_eq_true,if_false]
     exact zV h1 x hx hi hv _ (ak (by simp [go_sem,lJ,aX,iI])))
theorem JY {aD bx:aa} {n:RN} {w:RW} (h:WR aD n w bx) (x:Ev) (hx:x.bk < w.ai.length) (cQ:x.bk < w.aN.length) (hl:w.aI.length <= 50000) :
 aw prog 129 [.ptr n.p 10 0 0,aX x] bx (fA aD n.p (lK w x)):=by
 refine Og fun hf=>?_
 have au:=h.row
 unfold gP at au
 have dm:=h.ai
 have e2:w.ai.getD x.bk gD = w.ai[x.bk]:=by simp [hx]
 have e3:w.aN.getD x.bk Em = w.aN[x.bk]:=by simp [cQ]
 obtain ⟨z,hz⟩:∃ z,lK w x = z:=⟨_,rfl⟩
 rw [hz]
 unfold lK at hz
 rw [e2] at hz
 dsimp only at hz
 have hw:=h.iu _ _ (List.getElem?_eq_getElem hx)
 have OU:=h.sm.2.2.2.2 _ (List.getElem_mem hx)
 have cI:=xV hw (by omega) x.call
 have cM:=GJ h x.call x.bk
 have cT:=xW h x.conn x.bk
 have cO:=rB h x hx
 have gI:=oU w.ai[x.bk].waits x.call
 have evg:V.agg [V.int .i64 x.kind,V.int .i64 x.bk,V.int .i64 x.t,V.int .i64 x.call,V.int .i64 x.conn,V.int .i64 x.kf,V.int .i64 x.n,V.bool x.yes] = aX x:=by simp [aX,iI]
 simp [go_sem,Of,hf,aX,iI,au,dm,hx,eQ,hw.strip,hw.live]
 refine ah cI ?_
 by_cases c1:x.call ∈ w.ai[x.bk].waits \/ ju w x.call x.bk = true
 ·rw [if_pos c1] at hz
  by_cases c2:x.call ∈ w.ai[x.bk].waits
  all_goals first
   | (have k1:=gI.2 c2
      have k2:¬ sG w.ai[x.bk].waits x.call < 0:=by omega
      simp [go_sem,hf,k2]
      refine js (.bool false) (by simp [go_sem]) ?_
      simp [go_sem,hf])
   | (have k1:¬ 0 <= sG w.ai[x.bk].waits x.call:=fun h=>c2 (gI.1 h)
      have k2:sG w.ai[x.bk].waits x.call < 0:=by omega
      have A1:=c1.resolve_left c2
      rw [A1] at cM
      simp [go_sem,hf,k2]
      refine dI cM (by simp) (by simp [go_sem]) ?_
      simp [go_sem,hf])
  all_goals (
   cases iR:eX w x.conn x.bk with
   | none =>
     rw [iR] at cT hz
     dsimp only at hz
     unfold gu at cT
     refine ah cT ?_
     simp [go_sem,hf]
     refine ar (db h 4 (by omega)) ?_
     rintro r bP ⟨rfl,v',h1⟩
     have bg:=h1.fin
     simp [go_sem,bg]
     exact al (by simp [go_sem]) (.of hz.symm ⟨by simp [go_sem],{ n with fv:=v' },rfl,h1⟩)
   | some i =>
     have hi:=qb iR
     have e1:w.aq.getD i yF = w.aq[i]:=by simp [hi]
     rw [iR] at cT hz
     dsimp only at hz
     rw [e1,e3] at hz
     obtain ⟨b,hv,hb⟩:=h.aq.at (by simpa using by omega)
     simp at hv
     unfold gu Az at cT
     rw [hv] at cT
     simp at cT
     refine ah cT ?_
     by_cases s4:w.aq[i].st = 4
     ·rw [if_pos s4] at hz
      simp [go_sem,hf,au,hb,jl,iI,hi,s4]
      refine ar (db h 4 (by omega)) ?_
      rintro r bP ⟨rfl,v',h1⟩
      have bg:=h1.fin
      simp [go_sem,bg]
      exact al (by simp [go_sem]) (.of hz.symm ⟨by simp [go_sem],{ n with fv:=v' },rfl,h1⟩)
     rw [if_neg s4] at hz
     by_cases s1:w.aq[i].st = 1
     ·rw [if_pos s1] at hz
      simp [go_sem,hf,au,hb,jl,iI,hi,s1]
      refine ar (db h 1 (by omega)) ?_
      rintro r bP ⟨rfl,v',h1⟩
      have bg:=h1.fin
      simp [go_sem,bg]
      exact al (by simp [go_sem]) (.of hz.symm ⟨by simp [go_sem],{ n with fv:=v' },rfl,h1⟩)
     rw [if_neg s1] at hz
     simp [go_sem,hf,au,hb,jl,iI,hi,s4,s1,lJ,aX]
     rw [evg]
     refine ah cO ?_
     cases ho:fx w x
     ·rw [ho] at hz
      simp [go_sem,hf]
      exact zW h x hx cQ (by omega) hi hv hz.symm _ (ak (by simp [go_sem,lJ,aX,iI]))
     ·rw [ho] at hz
      simp [go_sem,hf]
      refine ar (db h 9 (by omega)) ?_
      rintro r bP ⟨rfl,v1,h1⟩
      have bg:=h1.fin
      simp [go_sem,bg]
      exact zW h1 x hx cQ (by simp; omega) hi hv hz.symm _ (ak (by simp [go_sem,lJ,aX,iI])))
 ·rw [if_neg c1] at hz
  obtain ⟨c2,c3⟩:=not_or.1 c1
  have k1:¬ 0 <= sG w.ai[x.bk].waits x.call:=fun h=>c2 (gI.1 h)
  have k2:sG w.ai[x.bk].waits x.call < 0:=by omega
  rw [Bool.not_eq_true] at c3
  rw [c3] at cM
  simp [go_sem,hf,k2]
  refine dI cM (by simp) (by simp [go_sem]) ?_
  simp [go_sem,hf]
  exact al (by simp [go_sem]) (.of hz.symm ⟨by simp [go_sem],n,rfl,h⟩)
def rO (b:RB):Bool:=decide (0 < b.ax.length + b.waits.length)
def qm (c:RC):Bool:=c.st != 5
def wa (r:RR):Bool:=!r.ended
def ue (w:RW):Bool:=w.ai.any rO || w.aq.any qm || w.aE.any wa
def fX (w:RW) (x:Ev):RW × Bool :=
 if x.kind = 17 then
  if dA w x.call then
   let i:=(dy w x.call).getD 0
   (w.dU i { w.aE.getD i zU with ended:=true },true)
  else (w,false)
 else if x.kind = 18 then if w.stop then (w,false) else ({ w with stop:=true },true)
 else if w.stop then (w.aj (ue w) 11,true) else (w,false)
theorem ug {α:Type} (l:List α) (p:α -> Bool) {j:Nat} (hj:j < l.length):(l.take (j + 1)).any p = ((l.take j).any p || p l[j]):=by
 rw [List.take_succ_eq_append_getElem hj,List.any_append]
 simp
theorem Hb {aD bx:aa} {n:RN} {w:RW} (h:WR aD n w bx) (x:Ev) (bi:Int) (hl:w.aI.length <= 50000) :
 aw prog 134 [.ptr n.p 10 0 0,dQ x bi] bx (fA aD n.p (fX w x)):=by
 refine Ol fun hf=>?_
 have au:=h.row
 unfold gP at au
 have dm:=h.ai
 have GH:=h.sm
 obtain ⟨z,hz⟩:∃ z,fX w x = z:=⟨_,rfl⟩
 rw [hz]
 unfold fX at hz
 by_cases k1:x.kind = 17
 ·have cR:=xX h x.call
  have cF:=oV h x.call
  rw [if_pos k1] at hz
  simp [go_sem,Ec,hf,dQ,iI,k1]
  cases hre:dA w x.call
  ·rw [hre] at cR hz
   refine ah cR ?_
   simp [go_sem,hf]
   exact al (by simp [go_sem]) (.of hz.symm ⟨by simp [go_sem],n,rfl,h⟩)
  ·obtain ⟨i,hi,nR⟩:=pd hre
   rw [hre] at cR
   rw [hre,hi] at hz
   rw [hi] at cF
   obtain ⟨b,hv,hb⟩:=h.aE.at (by simpa using by omega)
   simp at hv
   unfold gu Az at cF
   rw [hv] at cF
   simp at cF
   have e1:w.aE.getD i zU = w.aE[i]:=by simp [nR]
   simp only [if_true,Option.getD_some,e1] at hz
   refine ah cR ?_
   simp [go_sem,hf]
   refine ah cF ?_
   simp [go_sem,hf,hb,nR,mT,iI]
   exact al (by simp [go_sem]) (.of hz.symm ⟨by simp [go_sem],n,rfl,h.By hv hb i { w.aE[i] with ended:=true }⟩)
 rw [if_neg k1] at hz
 by_cases k2:x.kind = 18
 ·rw [if_pos k2] at hz
  cases iB:w.stop
  ·rw [iB] at hz au
   simp [go_sem,Ec,hf,dQ,iI,k2,au]
   exact al (by simp [go_sem]) (.of hz.symm ⟨by simp [go_sem],n,rfl,by simpa [gP,iI] using h.world { w with stop:=true } rfl rfl rfl rfl⟩)
  ·rw [iB] at hz au
   simp [go_sem,Ec,hf,dQ,iI,k2,au]
   exact al (by simp [go_sem]) (.of hz.symm ⟨by simp [go_sem],n,rfl,h⟩)
 rw [if_neg k2] at hz
 cases iB:w.stop
 ·rw [iB] at hz au
  simp [go_sem,Ec,hf,dQ,iI,k1,k2,au]
  exact al (by simp [go_sem]) (.of hz.symm ⟨by simp [go_sem],n,rfl,h⟩)
 rw [iB] at hz au
 simp only [if_true] at hz
 simp [go_sem,Ec,hf,dQ,iI,k1,k2,au]
 refine ch w.ai.length (fun j=>⟨115,bR [(0,.ptr n.p 10 0 0),(5,.bool ((w.ai.take j).any rO)),(6,.int .i64 j)],bx⟩) (ak (by simp [go_sem])) (fun j hj N hN=>?_) (fun N=>?_)
 ·have hw:=bj (k:=j) (by omega)
  have hd:=h.nC _ _ (List.getElem?_eq_getElem hj)
  have hq:=h.iu _ _ (List.getElem?_eq_getElem hj)
  have KY:=GH.2.2.2.2 _ (List.getElem_mem hj)
  have Mc:=fun bx2=>fW (bx2:=bx2) (t:=60) hd mS
  have hlq:=fun bx2=>fW (bx2:=bx2) (t:=60) hq mS
  simp [go_sem,hd.strip,hd.live] at Mc
  simp [go_sem,hq.strip,hq.live] at hlq
  rw [ug _ _ hj] at hN
  have hs:IntKind.i64.wrap ((w.ai[j].ax.length:Int) + w.ai[j].waits.length) = ((w.ai[j].ax.length + w.ai[j].waits.length:Nat):Int):=by rw [gN (by omega)]; omega
  have hp:decide ((0:Int) < (w.ai[j].ax.length:Int) + w.ai[j].waits.length) = decide (0 < w.ai[j].ax.length + w.ai[j].waits.length):=decide_eq_decide.2 (by omega)
  cases ha:(w.ai.take j).any rO
  ·rw [ha] at hN
   simp only [Bool.false_or,rO] at hN
   simp [go_sem,xK,hj,hf,hw,au,dm,eQ,iI,Mc,hlq,hd.strip,hd.live,hq.strip,hq.live,hs]
   rw [hp]
   exact hN _ (ak (by simp [go_sem]))
  ·rw [ha] at hN
   simp only [Bool.true_or] at hN
   simp [go_sem,xK,hj,hf,hw,au,dm,eQ,iI]
   exact hN _ (ak (by simp [go_sem]))
 rw [List.take_length]
 simp [go_sem,xK,hf,au]
 have RU:=fun bx2=>fW (bx2:=bx2) (t:=100) h.aq xA
 simp [go_sem,h.aq.strip,h.aq.live] at RU
 have hlr:=fun bx2=>fW (bx2:=bx2) (t:=101) h.aE FW
 simp [go_sem,h.aE.strip,h.aE.live] at hlr
 obtain ⟨B,hB⟩:∃ B,w.ai.any rO = B:=⟨_,rfl⟩
 rw [hB]
 refine ch w.aq.length (fun j=>⟨115,bR [(0,.ptr n.p 10 0 0),(5,.bool (B || (w.aq.take j).any qm)),(7,.int .i64 j)],bx⟩) (ak (by simp [go_sem])) (fun j hj N hN=>?_) (fun N=>?_)
 ·have hw:=bj (k:=j) (by omega)
  obtain ⟨b,hv,hb⟩:=h.aq.at (by simpa using by omega)
  rw [hv] at au
  simp at au
  rw [ug _ _ hj,<- Bool.or_assoc] at hN
  cases ha:(B || (w.aq.take j).any qm)
  ·rw [ha] at hN
   simp only [Bool.false_or,qm] at hN
   by_cases c5:w.aq[j].st = 5
   all_goals (
    simp [go_sem,xL,hj,hf,hw,au,hb,jl,iI,c5]
    exact hN _ (ak (by simp [go_sem,c5])))
  ·rw [ha] at hN
   simp only [Bool.true_or] at hN
   simp [go_sem,xL,hj,hf,hw,au,hb,jl,iI]
   exact hN _ (ak (by simp [go_sem]))
 rw [List.take_length]
 simp [go_sem,xL,hf,au,RU,h.aq.strip,h.aq.live]
 obtain ⟨C,hC⟩:∃ C,(B || w.aq.any qm) = C:=⟨_,rfl⟩
 rw [hC]
 refine ch w.aE.length (fun j=>⟨115,bR [(0,.ptr n.p 10 0 0),(5,.bool (C || (w.aE.take j).any wa)),(8,.int .i64 j)],bx⟩) (ak (by simp [go_sem])) (fun j hj N hN=>?_) (fun N=>?_)
 ·have hw:=bj (k:=j) (by omega)
  obtain ⟨b,hv,hb⟩:=h.aE.at (by simpa using by omega)
  rw [hv] at au
  simp at au
  rw [ug _ _ hj,<- Bool.or_assoc] at hN
  cases ha:(C || (w.aE.take j).any wa)
  ·rw [ha] at hN
   simp only [Bool.false_or,wa] at hN
   simp [go_sem,tT,hj,hf,hw,au,hb,mT,iI]
   exact hN _ (ak (by simp [go_sem]))
  ·rw [ha] at hN
   simp only [Bool.true_or] at hN
   simp [go_sem,tT,hj,hf,hw,au,hb,mT,iI]
   exact hN _ (ak (by simp [go_sem]))
 rw [List.take_length]
 have hD:(C || w.aE.any wa) = ue w:=by unfold ue; rw [<- hC,<- hB]
 rw [hD]
 cases hlw:ue w
 ·rw [hlw] at hz
  simp [go_sem,tT,hf,au,hlr,h.aE.strip,h.aE.live]
  exact al (by simp [go_sem]) (.of hz.symm ⟨by simp [go_sem],n,rfl,h⟩)
 ·rw [hlw] at hz
  simp [go_sem,tT,hf,au,hlr,h.aE.strip,h.aE.live]
  refine ar (db h 11 (by omega)) ?_
  rintro r bP ⟨rfl,v',h1⟩
  have bg:=h1.fin
  simp [go_sem,bg]
  exact al (by simp [go_sem]) (.of hz.symm ⟨by simp [go_sem],{ n with fv:=v' },rfl,h1⟩)
theorem yi {aD bx:aa} {n:RN} {w:RW} (h:WR aD n w bx) (x:Ev) (hx:x.bk < w.ai.length) (hl:w.aI.length <= 50000) (cQ:x.bk < w.aN.length) (px:∀ b,b ∈ w.ai -> b.waits.length <= 90000 /\ b.ax.length <= 90000) (hk:x.kind = 3 \/ x.kind = 4 \/ x.kind = 5 \/ x.kind = 6) :
 aw prog 127 [.ptr n.p 10 0 0,aX x] bx (fA aD n.p (eC w x)):=by
 rcases hk with hk | hk | hk | hk
 ·exact JS h x hx hl cQ px hk
 ·exact JT h x hx hk
 ·exact JV h x hx hl cQ px hk
 ·exact JU h x hx hk
def j4 (w:RW) (x:Ev):RW × Bool :=
 if x.kind = 1 then (if (dy w x.call).isSome || w.stop then (w,false) else ({ w with aE:=w.aE ++ [⟨x.call,x.yes,0,0,0,false⟩] },true))
 else if x.kind = 2 then rN w x
 else if x.kind = 3 \/ x.kind = 4 \/ x.kind = 5 \/ x.kind = 6 then eC w x
 else if x.kind = 7 then qk w x
 else if x.kind = 8 then lK w x
 else if x.kind = 9 \/ x.kind = 10 then (sf w x,true)
 else if x.kind = 11 then (match kI w x with | none=>(w,false) | some i=>(w.bh i { w.aq.getD i yF with st:=if x.yes then 3 else 4,call:=0 },true))
 else if x.kind = 12 \/ x.kind = 13 then lV w x
 else if x.kind = 14 then (w.aQ x.bk { w.ai.getD x.bk gD with down:=!x.yes },true)
 else if x.kind = 15 then (w.aQ x.bk { w.ai.getD x.bk gD with gV:=x.n,aM:=0 },true)
 else if x.kind = 16 then jF w x
 else fX w x
def CS (w:RW):Prop:=∀ c,c ∈ w.aq -> c.st = 1 -> ∃ j,dy w c.call = some j
theorem Hc {w:RW} {x:Ev} {i:Nat} (h:kI w x = some i):∃ c,w.aq[i]? = some c /\ c.st = 1 /\ c.call = x.call:=by
 unfold kI at h
 split at h
 ·split at h
  ·rename_i c hc
   split at h
   ·rename_i hh
    injection h with h
    subst h
    exact ⟨c,hc,hh⟩
   ·cases h
  ·cases h
 ·cases h
theorem CS.own {w:RW} (h:CS w) {x:Ev} {i:Nat} (hi:kI w x = some i):∃ j,dy w x.call = some j:=by
 obtain ⟨c,hc,h1,h2⟩:=Hc hi
 rw [<- h2]
 exact h c (List.mem_of_getElem? hc) h1
theorem OW {aD bx:aa} {n:RN} {w:RW} (h:WR aD n w bx) (x:Ev) (bi:Int) (hl:w.aI.length <= 50000) (jj:w.aq.length <= 90000) (hrl:w.aE.length <= 90000) (px:∀ b,b ∈ w.ai -> b.waits.length <= 90000 /\ b.ax.length <= 90000) (hbg:CS w)
 (ee:1 <= x.kind) (fJ:x.kind <= 19) (hb:2 <= x.kind -> x.kind <= 16 -> bi = x.bk /\ x.bk < w.ai.length /\ x.bk < w.aN.length) :
 aw prog 91 [.ptr n.p 10 0 0,dQ x bi] bx (fA aD n.p (j4 w x)):=by
 refine Wr fun hf=>?_
 have au:=h.row
 unfold gP at au
 have dm:=h.ai
 obtain ⟨z,hz⟩:∃ z,j4 w x = z:=⟨_,rfl⟩
 rw [hz]
 unfold j4 at hz
 by_cases k1:x.kind = 1
 ·have cF:=oV h x.call
  rw [if_pos k1] at hz
  simp [go_sem,yE,hf,dQ,iI,k1]
  cases iR:dy w x.call with
  | some i =>
    have nR:=nD iR
    rw [iR] at cF hz
    simp only [Option.isSome_some,Bool.true_or,if_true] at hz
    obtain ⟨b,hv,hb⟩:=h.aE.at (by simpa using by omega)
    simp at hv
    unfold gu Az at cF
    rw [hv] at cF
    simp at cF
    refine ah cF ?_
    simp [go_sem,hf]
    exact al (by simp [go_sem]) (.of hz.symm ⟨by simp [go_sem],n,rfl,h⟩)
  | none =>
    rw [iR] at cF hz
    unfold gu at cF
    simp only [Option.isSome_none,Bool.false_or] at hz
    refine ah cF ?_
    cases iB:w.stop
    ·rw [iB] at hz au
     simp [go_sem,hf,au]
     refine dx (.agg #[.int .i64 0,.bool false,.int .i64 0,.int .i64 0,.int .i64 0,.bool false]) h.aE hf (news:=[mT ⟨x.call,x.yes,0,0,0,false⟩]) FW NC (by simp [go_sem,bM,mT,iI]) Gj (by simp [go_sem]) (by decide) (by simp [ND]; omega) (by simp; omega) (by simp [go_sem]) fun v' bx' ha hm _=>?_
     have hn:=h.O7 (f:=⟨x.call,x.yes,0,0,0,false⟩) (by omega) ha hm
     have hp:bx' n.p = some (.row sH 10 [gP n w]):=by rw [hm.other (by rw [h.row]; simp) (h.aE.ne h.row (by decide)),h.row]
     unfold gP at hp
     rw [iB] at hp
     simp [go_sem,hp,ha.strip,ha.live,ha.cells,ha.okV,hm.fin,iI]
     exact al (by simp [go_sem]) (.of hz.symm ⟨by simp [go_sem],{ n with rv:=v' },rfl,by simpa [gP,iB,iI] using hn⟩)
    ·rw [iB] at hz au
     simp [go_sem,hf,au]
     exact al (by simp [go_sem]) (.of hz.symm ⟨by simp [go_sem],n,rfl,h⟩)
 rw [if_neg k1] at hz
 by_cases k2:x.kind <= 16
 ·obtain ⟨rfl,hx,cQ⟩:=hb (by omega) k2
  have evg:∀ k,x.kind = k -> V.agg [V.int .i64 k,V.int .i64 x.bk,V.int .i64 x.t,V.int .i64 x.call,V.int .i64 x.conn,V.int .i64 x.kf,V.int .i64 x.n,V.bool x.yes] = aX x:=fun k hk=>by simp [aX,iI,hk]
  have jx:x.kind = 2 \/ x.kind = 3 \/ x.kind = 4 \/ x.kind = 5 \/ x.kind = 6 \/ x.kind = 7 \/ x.kind = 8 \/ x.kind = 12 \/ x.kind = 13 \/ x.kind = 16 \/ x.kind = 9 \/ x.kind = 10 \/ x.kind = 11 \/ x.kind = 14 \/ x.kind = 15:=by omega
  rcases jx with hk | hk | hk | hk | hk | hk | hk | hk | hk | hk | hk | hk | hk | hk | hk
  ·have cN:=OT h x hx hl
   have ku:rN w x = z:=by rw [<- hz]; simp [hk]
   rw [ku] at cN
   simp [go_sem,yE,hf,dQ,iI,hk]
   rw [evg _ hk]
   refine ar cN ?_
   rintro r bP ⟨rfl,n',hp,h1⟩
   have bg:=h1.fin
   simp [go_sem,bg]
   exact al (by simp [go_sem]) (.of rfl ⟨by simp [go_sem],n',hp,h1⟩)
  ·have cN:=yi h x hx hl cQ px (by omega)
   have ku:eC w x = z:=by rw [<- hz]; simp [hk]
   rw [ku] at cN
   simp [go_sem,yE,hf,dQ,iI,hk]
   rw [evg _ hk]
   refine ar cN ?_
   rintro r bP ⟨rfl,n',hp,h1⟩
   have bg:=h1.fin
   simp [go_sem,bg]
   exact al (by simp [go_sem]) (.of rfl ⟨by simp [go_sem],n',hp,h1⟩)
  ·have cN:=yi h x hx hl cQ px (by omega)
   have ku:eC w x = z:=by rw [<- hz]; simp [hk]
   rw [ku] at cN
   simp [go_sem,yE,hf,dQ,iI,hk]
   rw [evg _ hk]
   refine ar cN ?_
   rintro r bP ⟨rfl,n',hp,h1⟩
   have bg:=h1.fin
   simp [go_sem,bg]
   exact al (by simp [go_sem]) (.of rfl ⟨by simp [go_sem],n',hp,h1⟩)
  ·have cN:=yi h x hx hl cQ px (by omega)
   have ku:eC w x = z:=by rw [<- hz]; simp [hk]
   rw [ku] at cN
   simp [go_sem,yE,hf,dQ,iI,hk]
   rw [evg _ hk]
   refine ar cN ?_
   rintro r bP ⟨rfl,n',hp,h1⟩
   have bg:=h1.fin
   simp [go_sem,bg]
   exact al (by simp [go_sem]) (.of rfl ⟨by simp [go_sem],n',hp,h1⟩)
  ·have cN:=yi h x hx hl cQ px (by omega)
   have ku:eC w x = z:=by rw [<- hz]; simp [hk]
   rw [ku] at cN
   simp [go_sem,yE,hf,dQ,iI,hk]
   rw [evg _ hk]
   refine ar cN ?_
   rintro r bP ⟨rfl,n',hp,h1⟩
   have bg:=h1.fin
   simp [go_sem,bg]
   exact al (by simp [go_sem]) (.of rfl ⟨by simp [go_sem],n',hp,h1⟩)
  ·have cN:=OV h x hx jj
   have ku:qk w x = z:=by rw [<- hz]; simp [hk]
   rw [ku] at cN
   simp [go_sem,yE,hf,dQ,iI,hk]
   rw [evg _ hk]
   refine ar cN ?_
   rintro r bP ⟨rfl,n',hp,h1⟩
   have bg:=h1.fin
   simp [go_sem,bg]
   exact al (by simp [go_sem]) (.of rfl ⟨by simp [go_sem],n',hp,h1⟩)
  ·have cN:=JY h x hx cQ hl
   have ku:lK w x = z:=by rw [<- hz]; simp [hk]
   rw [ku] at cN
   simp [go_sem,yE,hf,dQ,iI,hk]
   rw [evg _ hk]
   refine ar cN ?_
   rintro r bP ⟨rfl,n',hp,h1⟩
   have bg:=h1.fin
   simp [go_sem,bg]
   exact al (by simp [go_sem]) (.of rfl ⟨by simp [go_sem],n',hp,h1⟩)
  ·have cN:=GZ h x hl
   have ku:lV w x = z:=by rw [<- hz]; simp [hk]
   rw [ku] at cN
   simp [go_sem,yE,hf,dQ,iI,hk]
   rw [evg _ hk]
   refine ar cN ?_
   rintro r bP ⟨rfl,n',hp,h1⟩
   have bg:=h1.fin
   simp [go_sem,bg]
   exact al (by simp [go_sem]) (.of rfl ⟨by simp [go_sem],n',hp,h1⟩)
  ·have cN:=GZ h x hl
   have ku:lV w x = z:=by rw [<- hz]; simp [hk]
   rw [ku] at cN
   simp [go_sem,yE,hf,dQ,iI,hk]
   rw [evg _ hk]
   refine ar cN ?_
   rintro r bP ⟨rfl,n',hp,h1⟩
   have bg:=h1.fin
   simp [go_sem,bg]
   exact al (by simp [go_sem]) (.of rfl ⟨by simp [go_sem],n',hp,h1⟩)
  ·have cN:=GY h x hx
   have ku:jF w x = z:=by rw [<- hz]; simp [hk]
   rw [ku] at cN
   simp [go_sem,yE,hf,dQ,iI,hk]
   rw [evg _ hk]
   refine ar cN ?_
   rintro r bP ⟨rfl,n',hp,h1⟩
   have bg:=h1.fin
   simp [go_sem,bg]
   exact al (by simp [go_sem]) (.of rfl ⟨by simp [go_sem],n',hp,h1⟩)
  ·have cN:=LI h x hl (fun i hi _=>hbg.own hi)
   have ku:z = (sf w x,true):=by rw [<- hz]; simp [hk]
   simp [go_sem,yE,hf,dQ,iI,hk]
   rw [evg _ hk]
   refine ar cN ?_
   rintro r bP ⟨rfl,n',hp,h1⟩
   have bg:=h1.fin
   simp [go_sem,bg]
   exact al (by simp [go_sem]) (.of ku ⟨by simp [go_sem],n',hp,h1⟩)
  ·have cN:=LI h x hl (fun i hi _=>hbg.own hi)
   have ku:z = (sf w x,true):=by rw [<- hz]; simp [hk]
   simp [go_sem,yE,hf,dQ,iI,hk]
   rw [evg _ hk]
   refine ar cN ?_
   rintro r bP ⟨rfl,n',hp,h1⟩
   have bg:=h1.fin
   simp [go_sem,bg]
   exact al (by simp [go_sem]) (.of ku ⟨by simp [go_sem],n',hp,h1⟩)
  ·have cO:=L8 h x
   have ku:z = (match kI w x with | none=>(w,false) | some i=>(w.bh i { w.aq.getD i yF with st:=if x.yes then 3 else 4,call:=0 },true)):=by rw [<- hz]; simp [hk]
   simp [go_sem,yE,hf,dQ,iI,hk]
   rw [evg _ hk]
   cases iR:kI w x with
   | none =>
     rw [iR] at cO ku
     dsimp only at ku
     unfold gu at cO
     refine ah cO ?_
     simp [go_sem,hf]
     exact al (by simp [go_sem]) (.of ku ⟨by simp [go_sem],n,rfl,h⟩)
   | some i =>
     have hi:=(vZ iR).2
     have e1:w.aq.getD i yF = w.aq[i]:=by simp [hi]
     rw [iR] at cO ku
     dsimp only at ku
     rw [e1] at ku
     obtain ⟨b,hv,hb⟩:=h.aq.at (by simpa using by omega)
     simp at hv
     unfold gu Az at cO
     rw [hv] at cO
     simp at cO
     refine ah cO ?_
     cases hy:x.yes
     ·rw [hy] at ku
      simp [go_sem,hf,hb,jl,iI,hi,hy,aX]
      exact al (by simp [go_sem]) (.of ku ⟨by simp [go_sem],n,rfl,h.lF hv hb i { w.aq[i] with st:=4,call:=0 }⟩)
     ·rw [hy] at ku
      simp only [if_true] at ku
      simp [go_sem,hf,hb,jl,iI,hi,hy,aX]
      exact al (by simp [go_sem]) (.of ku ⟨by simp [go_sem],n,rfl,h.lF hv hb i { w.aq[i] with st:=3,call:=0 }⟩)
  ·have hY:∀ b,w.ai[x.bk]? = some b -> w.ai[x.bk].ax = b.ax /\ w.ai[x.bk].waits = b.waits:=fun b hb=>by
    rw [List.getElem?_eq_getElem hx] at hb
    injection hb with hb
    rw [hb]
    exact ⟨rfl,rfl⟩
   have e2:w.ai.getD x.bk gD = w.ai[x.bk]:=by simp [hx]
   have ku:z = (w.aQ x.bk { w.ai[x.bk] with down:=!x.yes },true):=by rw [<- hz,<- e2]; simp [hk]
   simp [go_sem,yE,hf,dQ,iI,hk,au,dm,hx,eQ]
   exact al (by simp [go_sem]) (.of ku ⟨by simp [go_sem],n,rfl,h.oW x.bk { w.ai[x.bk] with down:=!x.yes } hY⟩)
  ·have hY:∀ b,w.ai[x.bk]? = some b -> w.ai[x.bk].ax = b.ax /\ w.ai[x.bk].waits = b.waits:=fun b hb=>by
    rw [List.getElem?_eq_getElem hx] at hb
    injection hb with hb
    rw [hb]
    exact ⟨rfl,rfl⟩
   have e2:w.ai.getD x.bk gD = w.ai[x.bk]:=by simp [hx]
   have ku:z = (w.aQ x.bk { w.ai[x.bk] with gV:=x.n,aM:=0 },true):=by rw [<- hz,<- e2]; simp [hk]
   simp [go_sem,yE,hf,dQ,iI,hk,au,dm,hx,eQ]
   refine ⟨by simp [jd,lB,mh,jT],?_⟩
   exact al (by simp [go_sem]) (.of ku ⟨by simp [go_sem],n,rfl,h.oW x.bk { w.ai[x.bk] with gV:=x.n,aM:=0 } hY⟩)
 ·have evg:∀ k,x.kind = k -> V.agg [V.int .i64 k,V.int .i64 bi,V.int .i64 x.t,V.int .i64 x.call,V.int .i64 x.conn,V.int .i64 x.kf,V.int .i64 x.n,V.bool x.yes] = dQ x bi:=fun k hk=>by simp [dQ,iI,hk]
  have cN:=Hb h x bi hl
  have ku:fX w x = z:=by
   rw [<- hz,if_neg (by omega),if_neg (by omega),if_neg (by omega),if_neg (by omega),if_neg (by omega),if_neg (by omega),if_neg (by omega),if_neg (by omega),if_neg (by omega),if_neg (by omega)]
  rw [ku] at cN
  have jx:x.kind = 17 \/ x.kind = 18 \/ x.kind = 19:=by omega
  rcases jx with hk | hk | hk
  all_goals (
   simp [go_sem,yE,hf,dQ,iI,hk]
   rw [evg _ hk]
   refine ar cN ?_
   rintro r bP ⟨rfl,n',hp,h1⟩
   have bg:=h1.fin
   simp [go_sem,bg]
   exact al (by simp [go_sem]) (.of rfl ⟨by simp [go_sem],n',hp,h1⟩))
def pe (x:Int × Int):List (Int × Int) -> List (Int × Int)
 | []=>[x]
 | y :: l=>if x.1 < y.1 then x :: y :: l else y :: pe x l
def dK (l:List (Int × Int)):List (Int × Int):=l.foldl (fun a x=>pe x a) []
theorem uj (x:Int × Int):∀ (B C:List (Int × Int)),(∀ y,y ∈ B -> y.1 <= x.1) -> (∀ y,y ∈ C -> x.1 < y.1) -> pe x (B ++ C) = B ++ x :: C
 | [],[],_,_=>rfl
 | [],y :: C,_,h=>by simp [pe,h y (by simp)]
 | y :: B,C,h1,h2=>by
   have h:=h1 y (by simp)
   simp only [List.cons_append,pe,if_neg (show ¬ x.1 < y.1 by omega)]
   rw [uj x B C (fun z hz=>h1 z (by simp [hz])) h2]
theorem qO (x:Int × Int):∀ l:List (Int × Int),(pe x l).Perm (x :: l)
 | []=>.refl _
 | y :: l=>by
   unfold pe
   split
   ·exact .refl _
   ·exact ((qO x l).cons y).trans (.swap x y l)
theorem rP (x:Int × Int):∀ l:List (Int × Int),l.Pairwise (fun a b=>a.1 <= b.1) -> (pe x l).Pairwise (fun a b=>a.1 <= b.1)
 | [],_=>List.pairwise_singleton _ _
 | y :: l,h=>by
   rw [List.pairwise_cons] at h
   unfold pe
   split
   ·rename_i dr
    rw [List.pairwise_cons,List.pairwise_cons]
    refine ⟨fun z hz=>?_,h.1,h.2⟩
    rcases List.mem_cons.1 hz with rfl | hz
    ·omega
    ·have:=h.1 z hz; omega
   ·rename_i dr
    rw [List.pairwise_cons]
    refine ⟨fun z hz=>?_,rP x l h.2⟩
    rcases List.mem_cons.1 ((qO x l).mem_iff.1 hz) with rfl | hz
    ·omega
    ·exact h.1 z hz
theorem Eo (l:List (Int × Int)) (x:Int × Int):dK (l ++ [x]) = pe x (dK l):=by unfold dK; rw [List.foldl_append]; rfl
theorem yj:∀ (l acc:List (Int × Int)),acc.Pairwise (fun a b=>a.1 <= b.1) -> (l.foldl (fun a x=>pe x a) acc).Perm (acc ++ l) /\ (l.foldl (fun a x=>pe x a) acc).Pairwise (fun a b=>a.1 <= b.1)
 | [],acc,h=>⟨by simp,h⟩
 | x :: l,acc,h=>by
   obtain ⟨h1,h2⟩:=yj l (pe x acc) (rP x acc h)
   refine ⟨?_,h2⟩
   refine h1.trans (((qO x acc).append_right l).trans ?_)
   simpa using (List.perm_middle (a:=x) (l₁:=acc) (l₂:=l)).symm
theorem qP (l:List (Int × Int)):(dK l).Perm l:=by unfold dK; simpa using (yj l [] .nil).1
theorem ni (l:List (Int × Int)):(dK l).Pairwise (fun a b=>a.1 <= b.1):=(yj l [] .nil).2
theorem lf (l:List (Int × Int)):(dK l).length = l.length:=(qP l).length_eq
def py (A M:List (Int × Int)) (x:Int × Int) (D:List (Int × Int)) (j:Nat):List (Int × Int):=A ++ (M.take (M.length - j) ++ (x :: (M.drop (M.length - j) ++ D)))
theorem Hd (A M:List (Int × Int)) (x:Int × Int) (D:List (Int × Int)):py A M x D 0 = A ++ (M ++ (x :: D)):=by simp [py]
theorem CT (A M:List (Int × Int)) (x:Int × Int) (D:List (Int × Int)) (j:Nat):(py A M x D j).length = A.length + M.length + 1 + D.length:=by
 simp [py]; omega
theorem He (A M:List (Int × Int)) (x:Int × Int) (D:List (Int × Int)) {j:Nat} (hj:j <= M.length):(py A M x D j)[A.length + M.length - j]? = some x:=by
 unfold py
 rw [List.getElem?_append_right (by omega),List.getElem?_append_right (by simp; omega)]
 have:A.length + M.length - j - A.length - (M.take (M.length - j)).length = 0:=by simp; omega
 rw [this]
 rfl
theorem CU (A M:List (Int × Int)) (x:Int × Int) (D:List (Int × Int)) {j:Nat} (hj:j < M.length):(py A M x D j)[A.length + M.length - j - 1]? = M[M.length - j - 1]?:=by
 unfold py
 rw [List.getElem?_append_right (by omega),List.getElem?_append_left (by simp; omega),List.getElem?_take]
 rw [if_pos (by omega)]
 congr 1
 omega
theorem zX (A M:List (Int × Int)) (x:Int × Int) (D:List (Int × Int)) {j:Nat} (hj:j < M.length) (y:Int × Int) (hy:M[M.length - j - 1]? = some y):((py A M x D j).set (A.length + M.length - j) y).set (A.length + M.length - j - 1) x = py A M x D (j + 1):=by
 obtain ⟨p,hp⟩:∃ p,M.length - j = p + 1:=⟨M.length - j - 1,by omega⟩
 have rX:p < M.length:=by omega
 have hyp:M[p] = y:=by
  have:M.length - j - 1 = p:=by omega
  rw [this,List.getElem?_eq_getElem rX] at hy
  injection hy
 unfold py
 have e1:M.length - (j + 1) = p:=by omega
 rw [e1,hp,List.take_succ_eq_append_getElem rX,hyp,List.drop_eq_getElem_cons rX,hyp]
 have e2:A.length + M.length - j = A.length + (p + 1):=by omega
 rw [e2]
 have e4:A.length + (p + 1) - 1 = A.length + p:=by omega
 rw [e4,List.set_append_right _ _ (by omega),List.set_append_right _ _ (by omega)]
 have e5:A.length + p - A.length = p:=by omega
 have e3:A.length + (p + 1) - A.length = p + 1:=by omega
 have e7:(M.take p).length = p:=by rw [List.length_take]; omega
 rw [e5,e3,List.append_assoc,List.set_append_right _ _ (by omega),List.set_append_right _ _ (by omega),e7]
 simp
def oB (M:List (Int × Int)) (x:Int × Int) (j:Nat):Bool:=match M[M.length - j - 1]? with | some y=>decide (j < M.length -> y.1 <= x.1) | none=>true
theorem qn (A M:List (Int × Int)) (x:Int × Int) (D:List (Int × Int)) {j:Nat} (hj:j <= M.length) (hs:M.Pairwise (fun a b=>a.1 <= b.1)) (h1:j < M.length -> oB M x j = true) (h2:∀ i,i < j -> oB M x i = false):py A M x D j = A ++ (pe x M ++ D):=by
 have hle:∀ y,y ∈ M.take (M.length - j) -> y.1 <= x.1:=by
  intro y hy
  obtain ⟨i,hi,rfl⟩:=List.getElem_of_mem hy
  have y9:i < M.length - j /\ i < M.length:=by rw [List.length_take] at hi; omega
  rw [List.getElem_take]
  have lR:j < M.length:=by omega
  have hh:=h1 lR
  have hl:M.length - j - 1 < M.length:=by omega
  unfold oB at hh
  rw [List.getElem?_eq_getElem hl] at hh
  simp only [decide_eq_true_eq] at hh
  have hh:=hh lR
  rcases Nat.lt_or_ge i (M.length - j - 1) with h | h
  ·have:=(List.pairwise_iff_getElem.1 hs) i (M.length - j - 1) y9.2 hl h
   omega
  ·have:i = M.length - j - 1:=by omega
   subst this
   exact hh
 have hgt:∀ y,y ∈ M.drop (M.length - j) -> x.1 < y.1:=by
  intro y hy
  obtain ⟨i,hi,rfl⟩:=List.getElem_of_mem hy
  rw [List.length_drop] at hi
  rw [List.getElem_drop]
  have hh:=h2 (j - 1 - i) (by omega)
  unfold oB at hh
  have e:M.length - (j - 1 - i) - 1 = M.length - j + i:=by omega
  rw [e,List.getElem?_eq_getElem (by omega)] at hh
  simp only [decide_eq_false_iff_not] at hh
  have:¬ M[M.length - j + i].1 <= x.1:=fun hh2=>hh fun _=>hh2
  omega
 have h:=uj x _ _ hle hgt
 rw [List.take_append_drop] at h
 rw [h]
 simp [py]
theorem WR.OX {aD bx:aa} {n:RN} {w:RW} (h:WR aD n w bx) {b:Nat} (hv:n.fv = .own b 2 0 w.aI.length) (hb:bx b = some (.row nE 2 (w.aI.map bH))) (l:List (Int × Int)) (hl:l.length = w.aI.length) :
 WR aD n { w with aI:=l } (aB bx b (some (.row nE 2 (l.map bH)))):=by
 have vd:n.p ≠ b:=fun e=>by rw [<- e,h.row] at hb; injection hb with h1; injection h1 with h1; revert h1; decide
 have bB:n.bb ≠ b:=fun e=>by rw [<- e,h.ai] at hb; injection hb with h1; injection h1 with h1; revert h1; decide
 have k {e sz:Nat} {es:List V} {u:V} (hu:aY bx e sz es u) (h1:e ≠ nE):=hu.put hb h1 (some (.row nE 2 (l.map bH)))
 exact ⟨(an _ _ _).2 h.fin,fy h.ext (h.nf _ _ _ _ hv) _,h.np,h.nb,h.nc,h.nr,h.nf,h.nd,h.nw,by rw [ae _ _ vd]; exact h.row,by rw [ae _ _ bB]; exact h.ai,
  k h.aq (by decide),k h.aE (by decide),aY.set (es:=w.aI.map bH) (by simpa using hv) (by simpa using hl),fun i b hi=>k (h.nC i b hi) (by decide),fun i b hi=>k (h.iu i b hi) (by decide),h.dd,h.ww,h.dw,by
   have:=h.sm
   simpa [hl] using this⟩
theorem zY (A R:List (Int × Int)) {r:Nat} (hr:r < R.length):A ++ (dK (R.take r) ++ R.drop r) = py A (dK (R.take r)) R[r] (R.drop (r + 1)) 0 /\ A ++ (pe R[r] (dK (R.take r)) ++ R.drop (r + 1)) = A ++ (dK (R.take (r + 1)) ++ R.drop (r + 1)):=by
 refine ⟨?_,?_⟩
 ·rw [Hd,<- List.drop_eq_getElem_cons hr]
 ·rw [List.take_succ_eq_append_getElem hr,Eo]
theorem sR {aD bx:aa} {n:RN} {w:RW} (h:WR aD n w bx) (k:Nat) (hk:k <= w.aI.length) (hl:w.aI.length <= 60000) :
 aw prog 92 [.ptr n.p 10 0 0,.int .i64 k] bx (qj aD n.p { w with aI:=w.aI.take k ++ dK (w.aI.drop k) }):=by
 refine Ws fun hf=>?_
 have au:=h.row
 unfold gP at au
 obtain ⟨z,hz⟩:∃ z,({ w with aI:=w.aI.take k ++ dK (w.aI.drop k) }:RW) = z:=⟨_,rfl⟩
 rw [hz]
 rcases Nat.eq_zero_or_pos w.aI.length with h0 | h0
 ·have DM:k = 0:=by omega
  subst DM
  have pY:w.aI = []:=List.length_eq_zero_iff.1 h0
  have hlen:=fun bx2=>fW (bx2:=bx2) (t:=31) h.aI vR
  simp [go_sem,h.aI.strip,h.aI.live,h0] at hlen
  simp [go_sem,C92,hf]
  refine ch 0 (fun k=>⟨70,bR [(0,.ptr n.p 10 0 0),(1,.int .i64 0),(4,.int .i64 0)],bx⟩) (ak (by simp [go_sem])) (fun k hk N hN=>by omega) (fun N=>?_)
  simp [go_sem,C8,hf,au,h.aI.strip,h.aI.live,hlen]
  exact al (by simp [go_sem]) (.of hz.symm ⟨by simp [go_sem],n,rfl,by rw [show w.aI.take 0 ++ dK (w.aI.drop 0) = w.aI by rw [pY]; rfl]; exact h⟩)
 ·obtain ⟨b,hv,hb⟩:=h.aI.at (by simpa using h0)
  simp at hv
  rw [hv] at au
  have bB:n.p ≠ b:=fun e=>by rw [<- e,h.row] at hb; injection hb with h1; injection h1 with h1; revert h1; decide
  obtain ⟨A,hA⟩:∃ A,w.aI.take k = A:=⟨_,rfl⟩
  obtain ⟨R,hR⟩:∃ R,w.aI.drop k = R:=⟨_,rfl⟩
  have LJ:A.length = k:=by rw [<- hA,List.length_take]; omega
  have Iu:R.length = w.aI.length - k:=by rw [<- hR,List.length_drop]
  rw [hA,hR] at hz
  have e0:aB bx b (some (.row nE 2 ((A ++ (dK (R.take 0) ++ R.drop 0)).map bH))) = bx:=by
   rw [List.take_zero,List.drop_zero,show dK [] = [] from rfl,List.nil_append,<- hA,<- hR,List.take_append_drop]
   funext c
   by_cases e:c = b
   ·rw [e,af,hb]
   ·rw [ae _ _ e]
  simp [go_sem,C92,hf]
  refine ch R.length (fun r=>⟨70,bR [(0,.ptr n.p 10 0 0),(1,.int .i64 k),(4,.int .i64 ((k + r:Nat):Int))],aB bx b (some (.row nE 2 ((A ++ (dK (R.take r) ++ R.drop r)).map bH)))⟩) (by rw [e0]; exact ak (by simp [go_sem])) (fun r hr N hN=>?_) (fun N=>?_)
  ·obtain ⟨s1,s2⟩:=zY A R hr
   rw [<- s2] at hN
   rw [s1]
   have hM:=ni (R.take r)
   have JZ:(dK (R.take r)).length = r:=by rw [lf,List.length_take]; omega
   have hDl:(R.drop (r + 1)).length = R.length - (r + 1):=by rw [List.length_drop]
   generalize dK (R.take r) = M at *
   generalize R[r] = x at *
   generalize R.drop (r + 1) = D at *
   have hri:k + r < w.aI.length:=by omega
   have ad6:(k:Int) + r < w.aI.length:=by omega
   have bg:ba (aB bx b (some (.row nE 2 ((py A M x D 0).map bH)))):=(an _ _ _).2 hf
   simp [go_sem,C8,bg,au,ae _ _ bB,ad6]
   refine eG M.length (oB M x) (fun j=>⟨70,bR [(0,.ptr n.p 10 0 0),(1,.int .i64 k),(4,.int .i64 ((k + r:Nat):Int)),(5,.int .i64 ((k + r - j:Nat):Int))],aB bx b (some (.row nE 2 ((py A M x D j).map bH)))⟩) (ak (by simp [go_sem])) (fun j hj hJ N2 hN2=>?_) (fun hJ N2=>?_)
   ·obtain ⟨p,hp⟩:∃ p,k + r - j = p + 1:=⟨k + r - j - 1,by omega⟩
    rw [hp]
    have OS:k + r - (j + 1) = p:=by omega
    rw [OS] at hN2
    have d1:(py A M x D j)[p + 1]? = some x:=by
     have:=He A M x D (j:=j) (by omega)
     rwa [LJ,JZ,hp] at this
    obtain ⟨y,hy⟩:∃ y,M[M.length - j - 1]? = some y:=⟨_,List.getElem?_eq_getElem (by omega)⟩
    have d2:(py A M x D j)[p]? = some y:=by
     have:=CU A M x D (j:=j) hj
     rwa [LJ,JZ,hp,show p + 1 - 1 = p by omega,<- JZ,hy] at this
    have d3:=zX A M x D hj y hy
    rw [LJ,JZ,hp,show p + 1 - 1 = p by omega] at d3
    have dl:=CT A M x D j
    have cm:ba (aB bx b (some (.row nE 2 ((py A M x D j).map bH)))):=(an _ _ _).2 hf
    obtain ⟨L,hL⟩:∃ L,py A M x D j = L:=⟨_,rfl⟩
    rw [hL] at d1 d2 d3 dl cm ⊢
    have rX:p + 1 < L.length:=by omega
    have B6:p < L.length:=by omega
    have d1':L[p + 1] = x:=by rw [List.getElem?_eq_getElem rX] at d1; injection d1
    have d2':L[p] = y:=by rw [List.getElem?_eq_getElem B6] at d2; injection d2
    have KY:w.aI.length = L.length:=by omega
    have hkp:(k:Int) < (p:Int) + 1:=by omega
    have Xi:IntKind.i64.wrap (p:Int) = p:=gN (by omega)
    have y7:(0:Int) <= (p:Int) + 1:=by omega
    have mf:(p:Int) + 1 < (L.length:Int):=by omega
    have Xj:(p:Int) < (L.length:Int):=by omega
    have iB:oB M x j = decide (y.1 <= x.1):=by
     unfold oB
     rw [hy]
     simp [hj]
    rw [iB] at hN2
    have hY:((L.map bH).set (p + 1) (.agg [.int .i64 y.1,.int .i64 y.2])).set p (.agg [.int .i64 x.1,.int .i64 x.2]) = (py A M x D (j + 1)).map bH:=by
     rw [<- d3,List.map_set,List.map_set]
     rfl
    by_cases c1:x.1 < y.1
    ·simp [go_sem,C7,cm,au,ae _ _ bB,af,hkp,Xi,rX,B6,d1',d2',bH,iI,c1,KY,an,hf,y7,mf,Xj]
     rw [hY]
     exact hN2 _ (by simpa using c1) (ak (by simp [go_sem]))
    ·simp [go_sem,C7,cm,au,ae _ _ bB,af,hkp,Xi,rX,B6,d1',d2',bH,iI,c1,KY,an,hf,y7,mf,Xj]
     rw [<- hL,qn A M x D (by omega) hM (fun _=>by rw [iB]; simpa using c1) hJ]
     have wc:IntKind.i64.wrap ((k:Int) + r + 1) = (k:Int) + (r + 1):=by rw [gN (by omega)]; omega
     exact hN _ (ak (by simp [go_sem,wc]))
   ·have jx:k + r - M.length = k:=by omega
    rw [jx]
    have cm:ba (aB bx b (some (.row nE 2 ((py A M x D M.length).map bH)))):=(an _ _ _).2 hf
    rw [qn A M x D (Nat.le_refl _) hM (fun h=>absurd h (Nat.lt_irrefl _)) hJ] at cm ⊢
    simp [go_sem,C7,cm,au,ae _ _ bB,-List.map_append]
    have wc:IntKind.i64.wrap ((k:Int) + r + 1) = (k:Int) + (r + 1):=by rw [gN (by omega)]; omega
    exact hN _ (ak (by simp [go_sem,wc]))
  ·have cm:ba (aB bx b (some (.row nE 2 ((A ++ (dK (R.take R.length) ++ R.drop R.length)).map bH)))):=(an _ _ _).2 hf
   rw [List.take_length,List.drop_length,List.append_nil] at cm ⊢
   have AN:k + R.length = w.aI.length:=by omega
   rw [AN]
   simp [go_sem,C8,cm,au,ae _ _ bB]
   exact al (by simp [go_sem]) (.of hz.symm ⟨by simp [go_sem],n,rfl,by simpa using h.OX hv hb (A ++ dK R) (by rw [List.length_append,lf]; omega)⟩)
theorem Xk (x y:Int × Int) (bx:aa):ay prog 124 [bH x,bH y] bx (.int .i64 (cH (x.1 - y.1))):=by
 refine NY fun hf=>?_
 simp [go_sem,W3,hf,bH,iI]
 exact aA (by simp [go_sem]) ⟨by simp [go_sem]; rfl,rfl⟩
theorem Ka (m:Nat) (hm:m <= 12) (bx:aa):ay prog 180 [.int .u64 m] bx (.int .i64 ([0,1,2,2,3,3,3,3,4,4,4,4,4].getD m 0)):=by
 refine O3 fun hf=>?_
 have:m = 0 \/ m = 1 \/ m = 2 \/ m = 3 \/ m = 4 \/ m = 5 \/ m = 6 \/ m = 7 \/ m = 8 \/ m = 9 \/ m = 10 \/ m = 11 \/ m = 12:=by omega
 rcases this with rfl | rfl | rfl | rfl | rfl | rfl | rfl | rfl | rfl | rfl | rfl | rfl | rfl
 all_goals (
  simp [go_sem,WO,hf]
  refine ⟨by decide,?_⟩
  exact aA (by simp [go_sem]) ⟨by simp [go_sem]; decide,rfl⟩)
theorem LK (m:Nat) (hm:m <= 12) (bx:aa):ay prog 155 [.int .u64 m] bx (.int .i64 ([0,1,2,2,3,3,3,3,4,4,4,4,4].getD m 0)):=by
 refine Oo fun hf=>?_
 have hw:IntKind.u64.wrap (m:Int) = m:=FG (by omega)
 simp [go_sem,WK,hf,hw]
 refine ah (Ka m hm bx) ?_
 simp [go_sem,hf]
 exact aA (by simp [go_sem]) ⟨by simp [go_sem],rfl⟩
theorem Xl (A R:List (Int × Int)) (hA:A.length <= 100000) (hR:R.length <= 12) (hk:∀ f,f ∈ R -> 0 <= f.1 /\ f.1 <= 100) {b:Nat} {bx:aa} (hb:bx b = some (.row nE 2 ((A ++ R).map bH))) :
 aw prog 171 [.own b 2 A.length R.length,.int .i64 0,.int .i64 R.length,.fn (.func 124) []] bx fun r bx'=>r = .dc [] /\ bx' = aB bx b (some (.row nE 2 ((A ++ dK R).map bH))):=by
 refine GG fun hf=>?_
 have e0:aB bx b (some (.row nE 2 ((A ++ (dK (R.take (0 + 1)) ++ R.drop (0 + 1))).map bH))) = bx:=by
  have:dK (R.take (0 + 1)) ++ R.drop (0 + 1) = R:=by cases R <;> rfl
  rw [this]
  funext c
  by_cases e:c = b
  ·rw [e,af,hb]
  ·rw [ae _ _ e]
 simp [go_sem,JH,hf]
 refine ch (R.length - 1) (fun r=>⟨53,bR [(0,.own b 2 A.length R.length),(1,.int .i64 0),(2,.int .i64 R.length),(3,.fn (.func 124) []),(8,.int .i64 ((r + 1:Nat):Int))],aB bx b (some (.row nE 2 ((A ++ (dK (R.take (r + 1)) ++ R.drop (r + 1))).map bH)))⟩) (by rw [e0]; exact ak (by simp [go_sem]; decide)) (fun r hr N hN=>?_) (fun N=>?_)
 ·obtain ⟨s1,s2⟩:=zY A R (show r + 1 < R.length by omega)
  rw [<- s2] at hN
  rw [s1]
  have hM:=ni (R.take (r + 1))
  have JZ:(dK (R.take (r + 1))).length = r + 1:=by rw [lf,List.length_take]; omega
  have hDl:(R.drop (r + 1 + 1)).length = R.length - (r + 1 + 1):=by rw [List.length_drop]
  have Fc:∀ y,y ∈ dK (R.take (r + 1)) -> 0 <= y.1 /\ y.1 <= 100:=fun y hy=>hk y (List.mem_of_mem_take ((qP _).mem_iff.1 hy))
  have hxk:=hk R[r + 1] (List.getElem_mem (show r + 1 < R.length by omega))
  clear s1 s2
  obtain ⟨M,hMe⟩:∃ M,dK (R.take (r + 1)) = M:=⟨_,rfl⟩
  obtain ⟨x,hxe⟩:∃ x,R[r + 1]'(show r + 1 < R.length by omega) = x:=⟨_,rfl⟩
  obtain ⟨D,hDe⟩:∃ D,R.drop (r + 1 + 1) = D:=⟨_,rfl⟩
  rw [hMe] at hN hM JZ Fc ⊢
  rw [hxe] at hN hxk ⊢
  rw [hDe] at hN hDl ⊢
  have hri:((r:Int) + 1) < R.length:=by omega
  have bg:ba (aB bx b (some (.row nE 2 ((py A M x D 0).map bH)))):=(an _ _ _).2 hf
  simp [go_sem,tU,bg,hri]
  refine eG M.length (oB M x) (fun j=>⟨53,bR [(0,.own b 2 A.length R.length),(1,.int .i64 0),(2,.int .i64 R.length),(3,.fn (.func 124) []),(8,.int .i64 ((r + 1:Nat):Int)),(9,.int .i64 ((r + 1 - j:Nat):Int))],aB bx b (some (.row nE 2 ((py A M x D j).map bH)))⟩) (ak (by simp [go_sem])) (fun j hj hJ N2 hN2=>?_) (fun hJ N2=>?_)
  ·obtain ⟨p,hp⟩:∃ p,r + 1 - j = p + 1:=⟨r + 1 - j - 1,by omega⟩
   rw [hp]
   have OS:r + 1 - (j + 1) = p:=by omega
   rw [OS] at hN2
   have d1:(py A M x D j)[A.length + (p + 1)]? = some x:=by
    have:=He A M x D (j:=j) (by omega)
    rwa [JZ,show A.length + (r + 1) - j = A.length + (p + 1) by omega] at this
   obtain ⟨y,hy⟩:∃ y,M[M.length - j - 1]? = some y:=⟨_,List.getElem?_eq_getElem (by omega)⟩
   have d2:(py A M x D j)[A.length + p]? = some y:=by
    have:=CU A M x D (j:=j) hj
    rw [hy] at this
    rwa [JZ,show A.length + (r + 1) - j - 1 = A.length + p by omega] at this
   have d3:=zX A M x D hj y hy
   rw [JZ,show A.length + (r + 1) - j = A.length + (p + 1) by omega,show A.length + (p + 1) - 1 = A.length + p by omega] at d3
   have dl:=CT A M x D j
   have hyk:=Fc y (List.mem_of_getElem? hy)
   have cm:ba (aB bx b (some (.row nE 2 ((py A M x D j).map bH)))):=(an _ _ _).2 hf
   have iB:oB M x j = decide (y.1 <= x.1):=by
    unfold oB
    rw [hy]
    simp [hj]
   rw [iB] at hN2
   obtain ⟨L,hL⟩:∃ L,py A M x D j = L:=⟨_,rfl⟩
   rw [hL] at d1 d2 d3 dl cm ⊢
   have rX:A.length + (p + 1) < L.length:=by omega
   have B6:A.length + p < L.length:=by omega
   have d1':L[A.length + (p + 1)] = x:=by rw [List.getElem?_eq_getElem rX] at d1; injection d1
   have d2':L[A.length + p] = y:=by rw [List.getElem?_eq_getElem B6] at d2; injection d2
   have Xi:IntKind.i64.wrap (p:Int) = p:=gN (by omega)
   have y7:(0:Int) <= (p:Int) + 1:=by omega
   have mf:(p:Int) + 1 < (R.length:Int):=by omega
   have Xj:(p:Int) < (R.length:Int):=by omega
   have wc:IntKind.i64.wrap (x.1 - y.1) = x.1 - y.1:=gN (by omega)
   have hY:((L.map bH).set (A.length + (p + 1)) (bH y)).set (A.length + p) (bH x) = (py A M x D (j + 1)).map bH:=by
    rw [<- d3,List.map_set,List.map_set]
   have hfc:∀ z:Int × Int,(bH z).cells.length = 2:=fun z=>rfl
   have Rn:∀ z:Int × Int,V.agg (List.take 2 (bH z).cells) = bH z:=fun z=>rfl
   simp [go_sem,Bw,cm,Xi,y7,mf,Xj,rX,B6,d1',d2',hfc,Rn]
   refine dI (Xk x y _) (by simp [go_sem,bH,iI]) (by simp [go_sem]) ?_
   have hw:cH (x.1 - y.1) = x.1 - y.1:=wc
   by_cases c1:x.1 < y.1
   ·have c2:x.1 - y.1 < 0:=by omega
    simp [go_sem,hw,c2,cm,Xi,y7,mf,Xj,rX,B6,d1',d2',hfc,Rn]
    refine ⟨rfl,rfl,?_⟩
    have hsc:∀ z u:Int × Int,bh (bH z) 0 (bH u).cells = bH u:=fun z u=>rfl
    simp only [hsc]
    rw [hY]
    exact hN2 _ (by simpa using c1) (ak (by simp [go_sem]))
   ·have c2:¬ x.1 - y.1 < 0:=by omega
    simp [go_sem,hw,c2,cm]
    rw [<- hL,qn A M x D (by omega) hM (fun _=>by rw [iB]; simpa using c1) hJ]
    have wc:IntKind.i64.wrap ((r:Int) + 1 + 1) = (r:Int) + 1 + 1:=by rw [gN (by omega)]
    exact hN _ (ak (by simp [go_sem,wc]))
  ·have jx:r + 1 - M.length = 0:=by omega
   rw [jx]
   have cm:ba (aB bx b (some (.row nE 2 ((py A M x D M.length).map bH)))):=(an _ _ _).2 hf
   rw [qn A M x D (Nat.le_refl _) hM (fun h=>absurd h (Nat.lt_irrefl _)) hJ] at cm ⊢
   simp [go_sem,Bw,cm,-List.map_append]
   refine js (.int .i64 0) (by simp [go_sem]) ?_
   simp [go_sem,cm,-List.map_append]
   have wc:IntKind.i64.wrap ((r:Int) + 1 + 1) = (r:Int) + 1 + 1:=by rw [gN (by omega)]
   exact hN _ (ak (by simp [go_sem,wc]))
 ·have cm:ba (aB bx b (some (.row nE 2 ((A ++ (dK (R.take (R.length - 1 + 1)) ++ R.drop (R.length - 1 + 1))).map bH)))):=(an _ _ _).2 hf
  have dr:¬ ((R.length - 1:Nat):Int) + 1 < R.length:=by omega
  have e1:R.take (R.length - 1 + 1) = R:=List.take_of_length_le (by omega)
  have e2:R.drop (R.length - 1 + 1) = []:=List.drop_eq_nil_of_le (by omega)
  rw [e1,e2,List.append_nil] at cm ⊢
  simp [go_sem,tU,cm,dr]
  exact al (by simp [go_sem]) ⟨by simp [go_sem],by simp⟩
theorem Xm (A R:List (Int × Int)) (hA:A.length <= 100000) (hR:R.length <= 12) (hk:∀ f,f ∈ R -> 0 <= f.1 /\ f.1 <= 100) (k:Int) {b:Nat} {bx:aa} (hb:bx b = some (.row nE 2 ((A ++ R).map bH))) :
 aw prog 154 [.own b 2 A.length R.length,.int .i64 0,.int .i64 R.length,.int .i64 k,.fn (.func 124) []] bx fun r bx'=>r = .dc [] /\ bx' = aB bx b (some (.row nE 2 ((A ++ dK R).map bH))):=by
 refine GD fun hf=>?_
 simp [go_sem,JF,hf]
 refine ch 0 (fun _=>⟨148,bR [(0,.own b 2 A.length R.length),(1,.int .i64 0),(2,.int .i64 R.length),(3,.int .i64 k),(4,.fn (.func 124) []),(10,.bool true),(11,.bool true)],bx⟩) (ak (by simp [go_sem])) (fun k hk=>absurd hk (by omega)) ?_
 intro N
 have h1:IntKind.i64.wrap (R.length:Int) = R.length:=gN (by omega)
 have h2:(R.length:Int) <= 12:=by omega
 simp [go_sem,xM,hf,h1,h2]
 refine ar (Xl A R hA hR hk hb) ?_
 rintro r bP ⟨rfl,rfl⟩
 simp [go_sem,an,hf]
 exact al (by simp [go_sem]) ⟨by simp [go_sem],by simp⟩
theorem Hf (A R:List (Int × Int)) (hA:A.length <= 100000) (hR:R.length <= 12) (hk:∀ f,f ∈ R -> 0 <= f.1 /\ f.1 <= 100) {b:Nat} {bx:aa} (hb:bx b = some (.row nE 2 ((A ++ R).map bH))) :
 aw prog 123 [.own b 2 A.length R.length,.fn (.func 124) []] bx fun r bx'=>r = .dc [] /\ bx' = aB bx b (some (.row nE 2 ((A ++ dK R).map bH))):=by
 refine G6 fun hf=>?_
 have h1:IntKind.u64.wrap (R.length:Int) = R.length:=FG (by omega)
 simp [go_sem,NX,hf,h1]
 refine ah (LK R.length hR bx) ?_
 simp [go_sem,hf]
 refine ar (Xm A R hA hR hk _ hb) ?_
 rintro r bP ⟨rfl,rfl⟩
 simp [go_sem,an,hf]
 exact al (by simp [go_sem]) ⟨by simp [go_sem],by simp⟩
theorem OY (v:V) (hv:v = .aH \/ v = .sl 2 []) (bx:aa):ay prog 171 [v,.int .i64 0,.int .i64 0,.fn (.func 124) []] bx (.dc []):=by
 refine GG fun hb=>?_
 rcases hv with rfl | rfl
 ·simp [go_sem,JH,hb,gN]
  refine ch 0 (fun _=>⟨53,bR [(0,V.aH),(1,V.int IntKind.i64 0),(2,V.int IntKind.i64 0),(3,V.fn (Fn.func 124) []),(8,V.int IntKind.i64 1)],bx⟩) (ak (by simp [go_sem]; try rfl)) (fun k hk=>absurd hk (by omega)) ?_
  intro N
  simp [go_sem,tU]
  refine aA ?_ ?_ <;> simp [go_sem]
 ·simp [go_sem,JH,hb,gN]
  refine ch 0 (fun _=>⟨53,bR [(0,(V.sl 2 [])),(1,V.int IntKind.i64 0),(2,V.int IntKind.i64 0),(3,V.fn (Fn.func 124) []),(8,V.int IntKind.i64 1)],bx⟩) (ak (by simp [go_sem]; try rfl)) (fun k hk=>absurd hk (by omega)) ?_
  intro N
  simp [go_sem,tU]
  refine aA ?_ ?_ <;> simp [go_sem]
theorem OZ (v:V) (hv:v = .aH \/ v = .sl 2 []) (bx:aa):ay prog 154 [v,.int .i64 0,.int .i64 0,.int .i64 0,.fn (.func 124) []] bx (.dc []):=by
 refine GD fun hb=>?_
 have hi:=OY v hv bx
 rcases hv with rfl | rfl
 ·simp [go_sem,JF,hb,gN]
  refine ch 0 (fun _=>⟨148,bR [(0,V.aH),(1,V.int IntKind.i64 0),(2,V.int IntKind.i64 0),(3,V.int IntKind.i64 0),(4,V.fn (Fn.func 124) []),(10,.bool true),(11,.bool true)],bx⟩) (ak (by simp [go_sem]; try rfl)) (fun k hk=>absurd hk (by omega)) ?_
  intro N
  simp [go_sem,xM,gN]
  refine ah hi ?_
  simp [go_sem]
  refine aA ?_ ?_ <;> simp [go_sem]
 ·simp [go_sem,JF,hb,gN]
  refine ch 0 (fun _=>⟨148,bR [(0,(V.sl 2 [])),(1,V.int IntKind.i64 0),(2,V.int IntKind.i64 0),(3,V.int IntKind.i64 0),(4,V.fn (Fn.func 124) []),(10,.bool true),(11,.bool true)],bx⟩) (ak (by simp [go_sem]; try rfl)) (fun k hk=>absurd hk (by omega)) ?_
  intro N
  simp [go_sem,xM,gN]
  refine ah hi ?_
  simp [go_sem]
  refine aA ?_ ?_ <;> simp [go_sem]
theorem CV (v:V) (hv:v = .aH \/ v = .sl 2 []) (bx:aa):ay prog 123 [v,.fn (.func 124) []] bx (.dc []):=by
 refine G6 fun hb=>?_
 have hi:=OZ v hv bx
 rcases hv with rfl | rfl
 all_goals (
  simp [go_sem,NX,hb,FG]
  refine ah (LK 0 (by omega) bx) ?_
  simp [go_sem]
  refine ah hi ?_
  simp [go_sem]
  refine aA ?_ ?_ <;> simp [go_sem])
end Go.Proofs
namespace Go.Pl
open Go
theorem sg {P:Program} (hm:P.follows .mixedOrders = true) {M:dR} {f:FuncId} {fn:Func} {c:Code} (hf:P.funcs[f]? = some fn) (hb:fn.body = some c) (lY:fn.results = #[])
 {x y r:PC} {d:Tmp} {g:FuncId} {caps:Array Operand} (hc:compile c = erase (.seq x (.seq y (.seq (.bq false [⟨some d,.makeFunc (.func g) #[] caps,none,false⟩,⟨none,.defer { callee:=.value (.tmp d),args:=#[],argTypes:=#[] },none,false⟩] []) r))))
 {gn:Func} {cg:Code} (vD:P.funcs[g]? = some gn) (Ic:gn.body = some cg) {so:List Bool} {lg:List bS} (N3:compile cg = erase (.ke so lg [])) (rZ:gn.results = #[]) (tg:∀ vs w,(callFunc g vs).run P w = .ok (.enter g vs) w)
 {args:List V} {bx:aa} {D:aa -> Prop} {E:List V -> aa -> Prop} (hE:E = fun cv bx=>l9 P (fun s=>∃ bx',bX s.bx bx' /\ D bx') so lg (bZ gn.ntmps cv bx))
 (h:pw P (.seq x y) (fun e st=>e = .normal /\ dB P false ⟨some d,.makeFunc (.func g) #[] caps,none,false⟩ (fun st2=>∃ cv:List V,st2.sl d = .fn (.func g) cv /\
  pw P r (fun e2 st3=>(e2 = .normal \/ e2 = .ret) /\ E cv st3.bx) st2) st) (bZ fn.ntmps args bx)) :
 Fq P M f args bx (fun r bx'=>r = .dc [] /\ D bx'):=by
 subst hE
 exact se hm hf hb lY hc vD Ic N3 rZ tg h
end Go.Pl
namespace Go.Proofs
open Go Go.Pl Tryz
theorem WI.beside {aD bx:aa} {ad:di} {s:IW} (h:WI aD ad s bx) {b:Nat} (hb:bx b = none) (v:bF):WI (aB aD b (some v)) ad s (aB bx b (some v)):=by
 refine ⟨(an _ _ _).2 h.fin,fun c hc=>?_,fun c b' e=>?_,h.none_,h.inj⟩
 ·by_cases e:c = b
  ·rw [e,af,af]
  ·rw [ae _ _ e,ae _ _ e]
   exact h.ext c (by rwa [ae _ _ e] at hc)
 ·obtain ⟨k1,k2,k3⟩:=h.at_ c b' e
  have:b' ≠ b:=fun e2=>by rw [e2,hb] at k2; cases k2
  exact ⟨by rw [ae _ _ this,k1],by rw [ae _ _ this,k2],k3⟩
theorem WI.back {aD bx:aa} {ad:di} {s:IW} {b:Nat} {v:bF} (h:WI (aB aD b (some v)) ad s bx) (hb:aD b = none):WI aD ad s bx /\ bx b = some v /\ ∀ c,ad c ≠ some b:=by
 refine ⟨⟨h.fin,fun c hc=>?_,fun c b' e=>?_,h.none_,h.inj⟩,?_,fun c e=>?_⟩
 ·have:c ≠ b:=fun e=>by rw [e] at hc; exact hc hb
  have h2:=h.ext c (by rwa [ae _ _ this])
  rwa [ae _ _ this] at h2
 ·obtain ⟨k1,k2,k3⟩:=h.at_ c b' e
  have:b' ≠ b:=fun e2=>by rw [e2,af] at k1; cases k1
  exact ⟨by rwa [ae _ _ this] at k1,k2,k3⟩
 ·have h2:=h.ext b (by rw [af]; simp)
  rwa [af] at h2
 ·have:=(h.at_ c b e).1
  rw [af] at this
  cases this
theorem WI.CW {aD bx:aa} {ad:di} {s:IW} (h:WI aD ad s bx) {b:Nat} (hb:bx b = none):aD b = none:=by
 cases e:aD b with
 | none=>rfl
 | some x=>have:=h.ext b (by rw [e]; simp); rw [hb,e] at this; cases this
def fo (s:IW) (x:Ev):IW:={ s.aj (decide (x.t < s.now)) 12 with now:=if s.now < x.t then x.t else s.now }
def uk (n:Nat) (z:IW × Bool):IW :=
 let s:=z.1.aj (!z.2) 13
 { s with aI:=s.aI.take n ++ dK (s.aI.drop n) }
def opsOf:PC -> List bS | .ke _ l _=>l | _=>[]
theorem WI.Pb {aD bx:aa} {ad:di} {s:IW} (h:WI aD ad s bx) {b:Nat} (hb:ad .aI = some b) (l:List (Int × Int)) (hl:l.length = s.aI.length) :
 WI aD ad { s with aI:=l } (aB bx b (some (.row nE 2 (l.map bH)))) :=
 h.put hb { s with aI:=l } (fun c' b' hc _=>by cases c' <;> first | rfl | exact absurd rfl hc | (simp [cont,It,iv,hl])) (fun c'=>by cases c' <;> exact Iff.rfl) (fun c' o e=>by
  cases c' <;> first | exact o | (rw [hb] at e; cases e))
theorem Kb {bxb jt:aa} {ad5:di} {s5:IW} (h:WI bxb ad5 s5 jt) {p:Nat} (hp:ad5 .w = some p) {b n:Nat} (hb:jt b = some (.row 3 1 [.int .i64 n])) (xv:n <= s5.aI.length) (F5:s5.aI.length <= n + 12) (hl:s5.aI.length <= 100000) (hk:∀ f,f ∈ s5.aI.drop n -> 0 <= f.1 /\ f.1 <= 100)
 {D:aa -> Prop} (hD:∀ qw,WI bxb ad5 { s5 with aI:=s5.aI.take n ++ dK (s5.aI.drop n) } qw -> D qw) :
 l9 prog (fun s=>∃ bx',bX s.bx bx' /\ D bx') [false,false,false,false,false,false,true] (opsOf J8) (bZ 9 [.ep (.ptr p 13 0 0) 0,.ptr b 1 0 0] jt):=by
 rw [kX]
 have hf:=h.fin
 obtain ⟨pb,pc,pr,pm,pw',hn⟩:=h.names hp
 have au:=h.row hn
 unfold iv at au
 have zZ:=h.GN
 simp [go_sem,opsOf,J8,hf,au,hb,zZ.strip,zZ.live]
 cases Rn:ad5 .aI with
 | none =>
   have h0:s5.aI = []:=h.none_ .aI Rn trivial
   have hn0:n = 0:=by rw [h0] at xv; simpa using xv
   subst hn0
   simp [go_sem,jJ,hf]
   refine ah (CV _ (.inl rfl) _) ?_
   simp [go_sem,hf]
   refine ⟨jt,bX.refl _,hD jt ?_⟩
   have e:s5.aI.take 0 ++ dK (s5.aI.drop 0) = s5.aI:=by rw [h0]; rfl
   rw [e]
   exact h
 | some b2 =>
   obtain ⟨A,hA⟩:∃ A,s5.aI.take n = A:=⟨_,rfl⟩
   obtain ⟨R,hR⟩:∃ R,s5.aI.drop n = R:=⟨_,rfl⟩
   have hAR:A ++ R = s5.aI:=by rw [<- hA,<- hR,List.take_append_drop]
   have LJ:A.length = n:=by rw [<- hA,List.length_take]; omega
   have Iu:R.length = s5.aI.length - n:=by rw [<- hR,List.length_drop]
   rw [hA,hR] at hD
   rw [hR] at hk
   have cz:jt b2 = some (.row nE 2 ((A ++ R).map bH)):=by rw [hAR]; exact (h.at_ _ _ Rn).2.1
   have h6:=h.Pb Rn (A ++ dK R) (by rw [List.length_append,lf,LJ,Iu]; omega)
   rcases Nat.lt_or_ge n s5.aI.length with dr | tg
   ·simp [go_sem,jJ,hf,dr]
    rw [<- Iu,<- LJ]
    refine ar (Hf A R (by omega) (by omega) hk cz) ?_
    rintro r qw ⟨rfl,rfl⟩
    simp [go_sem,an,hf]
    exact ⟨_,bX.refl _,hD _ (by simpa using h6)⟩
   ·have Ro:R = []:=List.length_eq_zero_iff.1 (by omega)
    have e6:A ++ dK R = s5.aI:=by rw [Ro,show dK [] = [] from rfl,<- hAR,Ro]
    rw [e6] at hD
    rcases Nat.eq_zero_or_pos n with h0 | h0
    ·subst h0
     have hA0:A = []:=List.length_eq_zero_iff.1 LJ
     have Rp:s5.aI.length = 0:=by omega
     simp [go_sem,jJ,hf,Rp]
     have:=Hf A R (by omega) (by omega) hk cz
     rw [LJ,Ro] at this
     refine ar this ?_
     rintro r qw ⟨rfl,rfl⟩
     simp [go_sem,an,hf]
     refine ⟨_,bX.refl _,hD _ ?_⟩
     have h6':=h6
     rw [e6] at h6'
     rw [Ro] at e6
     simpa [<- e6] using h6'
    ·have dr:¬ n < s5.aI.length:=by omega
     have bB:¬ n = 0:=by omega
     have heq:(n:Int) = (s5.aI.length:Int):=by omega
     simp [go_sem,jJ,hf,dr,bB,heq]
     refine ah (CV _ (.inr rfl) _) ?_
     simp [go_sem,hf]
     exact ⟨jt,bX.refl _,hD jt h⟩
theorem Kd {aD bx:aa} {ad:di} {s:IW} (h:WI aD ad s bx) {p:Nat} (hp:ad .w = some p) (x:Ev) (bi:Int) (g:FuncId) (n0 n1 n2 n3:Bool) (n4 n5:Int) (z:IW × Bool)
 (hF:∀ aD bx ad,WI aD ad (fo s x) bx -> ad .w = some p -> aw prog g [.ptr p 13 0 0,dQ x bi] bx (dq aD ad z)) (hl:s.aI.length <= 80000) (iS:s.aI.length <= z.1.aI.length) (YA:z.1.aI.length <= s.aI.length + 10) (hk:∀ f,f ∈ z.1.aI.drop s.aI.length -> 0 <= f.1 /\ f.1 <= 100) :
 aw prog 89 [.ptr p 13 0 0,.agg [.bool n0,.bool n1,.bool n2,.bool n3,.int .i64 n4,.int .i64 n5,.fn (.func g) []],dQ x bi] bx (o9 aD ad (uk s.aI.length z)):=by
 refine ⟨adp,fun β M=>?_⟩
 obtain ⟨c,hb,hc⟩:=NH
 obtain ⟨cg,Ic,N3⟩:=J9
 obtain ⟨E,hE⟩:∃ E:List V -> aa -> Prop,E = fun cv bx=>l9 prog (fun s'=>∃ bx',bX s'.bx bx' /\ ∃ ad',bT ad ad' /\ WI aD ad' (uk s.aI.length z) bx') [false,false,false,false,false,false,true] (opsOf J8) (bZ f122.ntmps cv bx):=⟨_,rfl⟩
 refine sg (by kernel_rfl) func89 hb (by kernel_rfl) hc func122 Ic N3 (by kernel_rfl) W2 hE ?_ β
 rw [W0] at hE
 have hf:=h.fin
 obtain ⟨pb,pc,pr,pm,pw',hn⟩:=h.names hp
 have au:=h.row hn
 unfold iv at au
 have zZ:=h.GN
 have hlen:=fun bx2=>fW (bx2:=bx2) (t:=31) zZ vR
 simp [go_sem,zZ.strip,zZ.live] at hlen
 rw [ado,zu]
 simp [go_sem,hf,au,zZ.strip,zZ.live,hlen,dQ,iI]
 intro b hb6
 have hnp:p ≠ b:=by rintro rfl; rw [au] at hb6; cases hb6
 have h1:=h.beside hb6 (.row 3 1 [.int .i64 s.aI.length])
 have dH:=h.CW hb6
 obtain ⟨bxb,Xn⟩:∃ bxb,aB aD b (some (.row 3 1 [.int .i64 s.aI.length])) = bxb:=⟨_,rfl⟩
 obtain ⟨bP,Bz⟩:∃ bP,aB bx b (some (.row 3 1 [.int .i64 s.aI.length])) = bP:=⟨_,rfl⟩
 rw [Xn,Bz] at h1
 rw [Bz]
 have bg:=h1.fin
 have fN:=h1.row hn
 unfold iv at fN
 have evg:V.agg [V.int .i64 x.kind,V.int .i64 bi,V.int .i64 x.t,V.int .i64 x.call,V.int .i64 x.conn,V.int .i64 x.kf,V.int .i64 x.n,V.bool x.yes] = dQ x bi:=rfl
 have hnn:∀ (ad3:di) (bx3:aa),bT ad ad3 -> WI bxb ad3 (fo s x) bx3 -> aw prog g [.ptr p 13 0 0,dQ x bi] bx3 (dq bxb ad3 z):=fun ad3 bx3 CL h3=>hF _ _ _ h3 (CL _ _ hp rfl)
 have CX:∀ (ad5:di) (jt:aa),bT ad ad5 -> WI bxb ad5 (z.1.aj (!z.2) 13) jt -> E [.ep (.ptr p 13 0 0) 0,.ptr b 1 0 0] jt:=by
  intro ad5 jt EO h5
  rw [hE]
  rw [<- Xn] at h5
  obtain ⟨_,Ep,_⟩:=h5.back dH
  have hlf:(z.1.aj (!z.2) 13).aI.length <= z.1.aI.length + 1 /\ s.aI.length <= (z.1.aj (!z.2) 13).aI.length /\ ∀ f,f ∈ (z.1.aj (!z.2) 13).aI.drop s.aI.length -> 0 <= f.1 /\ f.1 <= 100:=by
   unfold IW.aj IW.fault
   split
   ·refine ⟨by simp,by simp; omega,fun f hf=>?_⟩
    rw [List.drop_append_of_le_length iS] at hf
    rcases List.mem_append.1 hf with hf | hf
    ·exact hk f hf
    ·simp at hf; subst hf; exact ⟨by show (0:Int) <= 13; decide,by show (13:Int) <= 100; decide⟩
   ·exact ⟨by omega,iS,hk⟩
  refine Kb h5 (EO _ _ hp rfl) Ep hlf.2.1 (by omega) (by omega) hlf.2.2 fun qw h6=>?_
  exact ⟨ad5,EO,(h6.back dH).1⟩
 by_cases c1:x.t < s.now
 ·simp [go_sem,bg,fN,c1,iI]
  refine ar (dz h1 hn.w 12 (by omega)) ?_
  rintro r bx2 ⟨rfl,ad2,fJ,h2⟩
  have cm:=h2.fin
  have F5:=hn.cw fJ
  have fO:=h2.row F5
  unfold iv at fO
  have ad7:(s.fault 12).now = s.now:=rfl
  have h3:=h2.world F5 (if s.now < x.t then x.t else s.now) (s.fault 12).at_ (s.fault 12).stop
  have hpr:fo s x = { s.fault 12 with now:=if s.now < x.t then x.t else s.now }:=by unfold fo IW.aj; rw [if_pos (by simpa using c1)]
  unfold iv at h3
  simp only [iI] at h3
  simp [go_sem,cm,fO,iI,ad7,c1]
  generalize (aB bx2 p (some (bF.row LA 13 [V.agg [V.sl 4 (List.map bG (s.fault 12).aN),V.int IntKind.i64 (s.fault 12).most,V.sl 8 (List.map ey (s.fault 12).kO),V.int IntKind.i64 (if s.now < x.t then x.t else s.now),V.int IntKind.i64 (s.fault 12).at_,V.own pb 6 0 (s.fault 12).ai.length,V.mp pc,jJ (ad2 o8.ord) 1 (s.fault 12).ord.length,V.mp pr,V.mp pm,V.mp pw',V.bool (s.fault 12).stop,jJ (ad2 o8.aI) 2 (s.fault 12).aI.length]]))) = bx3 at *
  have h3:WI bxb ad2 (fo s x) bx3:=by rw [hpr]; exact h3
  have lU:=h3.fin
  rw [evg]
  refine ar (hnn ad2 bx3 fJ h3) ?_
  rintro r bx4 ⟨rfl,ad4,Ei,h4⟩
  have Ei:bT ad ad4:=(fJ).trans Ei
  have lI:=h4.fin
  cases Bc:z.2
  ·simp [go_sem,lI]
   refine ar (dz h4 (Ei _ _ hp rfl) 13 (by omega)) ?_
   rintro r jt ⟨rfl,ad5,EO,h5⟩
   simp [go_sem]
   exact CX ad5 jt (Ei.trans EO) (by rw [Bc]; exact h5)
  ·simp [go_sem]
   exact CX ad4 bx4 Ei (by rw [Bc]; exact h4)
 ·have h3:=h1.world hn (if s.now < x.t then x.t else s.now) s.at_ s.stop
  have hpr:fo s x = { s with now:=if s.now < x.t then x.t else s.now }:=by unfold fo IW.aj; rw [if_neg (by simpa using c1)]
  unfold iv at h3
  simp only [iI] at h3
  simp [go_sem,bg,fN,c1,iI]
  generalize (aB bP p (some (bF.row LA 13 [V.agg [V.sl 4 (List.map bG s.aN),V.int IntKind.i64 s.most,V.sl 8 (List.map ey s.kO),V.int IntKind.i64 (if s.now < x.t then x.t else s.now),V.int IntKind.i64 s.at_,V.own pb 6 0 s.ai.length,V.mp pc,jJ (ad o8.ord) 1 s.ord.length,V.mp pr,V.mp pm,V.mp pw',V.bool s.stop,jJ (ad o8.aI) 2 s.aI.length]]))) = bx3 at *
  have h3:WI bxb ad (fo s x) bx3:=by rw [hpr]; exact h3
  have lU:=h3.fin
  rw [evg]
  refine ar (hnn ad bx3 (bT.refl ad) h3) ?_
  rintro r bx4 ⟨rfl,ad4,Ei,h4⟩
  have Ei:bT ad ad4:=(bT.refl ad).trans Ei
  have lI:=h4.fin
  cases Bc:z.2
  ·simp [go_sem,lI]
   refine ar (dz h4 (Ei _ _ hp rfl) 13 (by omega)) ?_
   rintro r jt ⟨rfl,ad5,EO,h5⟩
   simp [go_sem]
   exact CX ad5 jt (Ei.trans EO) (by rw [Bc]; exact h5)
  ·simp [go_sem]
   exact CX ad4 bx4 Ei (by rw [Bc]; exact h4)
end Go.Proofs
namespace Go.Proofs
open Go Go.Pl Tryz
def eT (s:IW) (x:Ev):IW × Bool:=match x.kind.toNat with
 | 1=>pa s x
 | 2=>rK s x
 | 3=>qe s x
 | 4=>mY s x
 | 5=>rJ s x
 | 6=>bd s x
 | 7=>rL s x
 | 8=>ng s x
 | 9=>rH s x
 | 10=>rG s x
 | 11=>rE s x
 | 12=>rF s x
 | 13=>mZ s x
 | 14=>zO s x
 | 15=>zP s x
 | 16=>ky s x
 | 17=>yh s x
 | 18=>tX s
 | _=>qi s
theorem qo {α:Type} (l:List (Int × α)) (k:Int):(ki l k).isSome = true ↔ k ∈ l.map (·.1):=by
 unfold ki
 rw [List.findIdx?_isSome,List.any_eq_true,List.mem_map]
 constructor
 ·rintro ⟨q,h1,h2⟩
  exact ⟨q,h1,by simpa using h2⟩
 ·rintro ⟨q,h1,h2⟩
  exact ⟨q,h1,by simpa using h2⟩
theorem Ke {α:Type} {l:List (Int × α)} {k:Int} {j:Nat} (h:ki l k = some j):k ∈ l.map (·.1):=(qo l k).1 (by rw [h]; rfl)
structure pf (s:IW):Prop where
 ord:s.ord = s.aq.map (·.num)
 oC:(s.aq.map (·.num)).Nodup
 pz:∀ c,c ∈ s.aq -> c.st = 1 -> c.call ∈ s.aE.map (·.1)
 CY:∀ q,q ∈ s.busy -> q.1 ∈ s.aE.map (·.1)
structure CI (l:List Int) (c w:Nat) (s s':IW):Prop where
 kO:s'.kO = s.kO
 aN:s'.aN = s.aN
 most:s'.most = s.most
 at_:s'.at_ = s.at_
 len:s'.ai.length = s.ai.length
 aq:s'.aq.length <= s.aq.length + c
 Hg:∀ m,(∀ b,b ∈ s.ai -> b.waits.length <= m) -> ∀ b,b ∈ s'.ai -> b.waits.length <= m + w
 inv:pf s -> pf s'
 aI:∃ E:List Int,s'.aI = s.aI ++ E.map (fun k=>(k,s.at_)) /\ E.Sublist l
theorem CI.refl (s:IW):CI [] 0 0 s s:=⟨rfl,rfl,rfl,rfl,rfl,Nat.le_refl _,fun m h=>h,fun h=>h,[],by simp,.refl _⟩
theorem CI.trans {l l':List Int} {c w c' w':Nat} {s s' s2:IW} (h:CI l c w s s') (h':CI l' c' w' s' s2):CI (l ++ l') (c + c') (w + w') s s2:=by
 obtain ⟨E,hE,hs⟩:=h.aI
 obtain ⟨E',hE',hs'⟩:=h'.aI
 refine ⟨h'.kO.trans h.kO,h'.aN.trans h.aN,h'.most.trans h.most,h'.at_.trans h.at_,h'.len.trans h.len,by have:=h.aq; have:=h'.aq; omega,fun m hm b hb=>?_,fun hi=>h'.inv (h.inv hi),E ++ E',?_,hs.append hs'⟩
 ·have:=h'.Hg _ (h.Hg m hm) b hb
  omega
 ·rw [hE',hE,h.at_,List.map_append,List.append_assoc]
theorem CI.le {l l':List Int} {c w c' w':Nat} {s s':IW} (h:CI l c w s s') (hl:l.Sublist l') (hc:c <= c') (hw:w <= w'):CI l' c' w' s s':=by
 obtain ⟨E,hE,hs⟩:=h.aI
 exact ⟨h.kO,h.aN,h.most,h.at_,h.len,by have:=h.aq; omega,fun m hm b hb=>by have:=h.Hg m hm b hb; omega,h.inv,E,hE,hs.trans hl⟩
theorem CI.fault (s:IW) (k:Int):CI [k] 0 0 s (s.fault k):=⟨rfl,rfl,rfl,rfl,rfl,Nat.le_refl _,fun m h=>h,fun h=>⟨h.ord,h.oC,h.pz,h.CY⟩,[k],rfl,.refl _⟩
theorem CI.aj (s:IW) (b:Bool) (k:Int):CI [k] 0 0 s (s.aj b k):=by
 unfold IW.aj
 split
 ·exact CI.fault s k
 ·exact (CI.refl s).le (List.nil_sublist _) (Nat.le_refl _) (Nat.le_refl _)
theorem CI.ai (s:IW) (i:Nat) (b:IB) {w:Nat} (hb:∀ m,(∀ b,b ∈ s.ai -> b.waits.length <= m) -> b.waits.length <= m + w):CI [] 0 w s { s with ai:=s.ai.set i b }:=by
 refine ⟨rfl,rfl,rfl,rfl,by simp,Nat.le_refl _,fun m hm b' aR=>?_,fun h=>⟨h.ord,h.oC,h.pz,h.CY⟩,[],by simp,.refl _⟩
 rcases List.mem_or_eq_of_mem_set aR with h | rfl
 ·have:=hm _ h
  omega
 ·exact hb m hm
theorem uo {s:IW} {m:Nat} (h:∀ b,b ∈ s.ai -> b.waits.length <= m) (i:Nat):(s.ai.getD i gp).waits.length <= m:=by
 rw [List.getD_eq_getElem?_getD]
 cases e:s.ai[i]? with
 | none=>exact Nat.zero_le _
 | some b=>exact h b (List.mem_of_getElem? e)
theorem CI.aQ (s:IW) (i:Nat) (b:IB) (hb:b.waits = (s.ai.getD i gp).waits):CI [] 0 0 s (s.aQ i b):=CI.ai s i b fun m hm=>by rw [hb]; exact uo hm i
theorem Aa (l:List (Int × IR)) (i:Nat) (r:IR):(l.set i ((l.getD i (0,o7)).1,r)).map (·.1) = l.map (·.1):=by
 apply List.ext_getElem?
 intro j
 rw [List.getElem?_map,List.getElem?_map,List.getElem?_set]
 by_cases e:i = j
 ·subst e
  by_cases h:i < l.length
  ·simp [h]
  ·simp [h]
 ·simp [e]
theorem CI.dU (s:IW) (i:Nat) (r:IR):CI [] 0 0 s (s.dU i r):=by
 have e:(s.dU i r).aE.map (·.1) = s.aE.map (·.1):=Aa s.aE i r
 exact ⟨rfl,rfl,rfl,rfl,rfl,Nat.le_refl _,fun m h=>h,fun h=>⟨h.ord,h.oC,by rw [e]; exact h.pz,by rw [e]; exact h.CY⟩,[],by simp [IW.dU],.refl _⟩
theorem Hh (l:List IC) (i:Nat) (c:IC) (hc:c.num = (l.getD i kJ).num):(l.set i c).map (·.num) = l.map (·.num):=by
 apply List.ext_getElem?
 intro j
 rw [List.getElem?_map,List.getElem?_map,List.getElem?_set]
 by_cases e:i = j
 ·subst e
  by_cases h:i < l.length
  ·simp [h] at hc ⊢
   exact hc
  ·simp [h]
 ·simp [e]
theorem CI.bh (s:IW) (i:Nat) (c:IC) (hc:c.num = (s.aq.getD i kJ).num) (hq:c.st = 1 -> c.call ∈ s.aE.map (·.1)):CI [] 0 0 s (s.bh i c):=by
 have e:=Hh s.aq i c hc
 refine ⟨rfl,rfl,rfl,rfl,rfl,by simp [IW.bh],fun m h=>h,fun h=>⟨?_,?_,fun c' ec h1=>?_,h.CY⟩,[],by simp [IW.bh],.refl _⟩
 ·show s.ord = (s.aq.set i c).map (·.num)
  rw [e]
  exact h.ord
 ·show ((s.aq.set i c).map (·.num)).Nodup
  rw [e]
  exact h.oC
 ·by_cases hi:i < s.aq.length
  ·rcases List.mem_or_eq_of_mem_set ec with h2 | rfl
   ·exact h.pz c' h2 h1
   ·exact hq h1
  ·have e2:s.aq.set i c = s.aq:=List.set_eq_of_length_le (by omega)
   have ec:c' ∈ s.aq.set i c:=ec
   rw [e2] at ec
   exact h.pz c' ec h1
theorem Er {α:Type} {l:List (Int × α)} {k:Int} {x:α} {q:Int × α} (h:q ∈ jv l k x):q.1 = k \/ q ∈ l:=by
 unfold jv at h
 split at h
 ·rcases List.mem_or_eq_of_mem_set h with h | rfl
  ·exact .inr h
  ·exact .inl rfl
 ·rcases List.mem_append.1 h with h | h
  ·exact .inr h
  ·simp at h
   exact .inl (by rw [h])
theorem Hi {α:Type} {l:List (Int × α)} {k:Int} {q:Int × α} (h:q ∈ nX l k):q ∈ l:=by
 unfold nX at h
 split at h
 ·exact List.mem_of_mem_eraseIdx h
 ·exact h
theorem CI.nH (s:IW) (x:Ev) (q:IP) (hq:q ≠ dF -> x.call ∈ s.aE.map (·.1)):CI [] 0 0 s (aW s x q):=by
 unfold aW
 split
 ·exact ⟨rfl,rfl,rfl,rfl,rfl,Nat.le_refl _,fun m h=>h,fun h=>⟨h.ord,h.oC,h.pz,fun q hq=>h.CY q (Hi hq)⟩,[],by simp,.refl _⟩
 ·rename_i bB
  refine ⟨rfl,rfl,rfl,rfl,rfl,Nat.le_refl _,fun m h=>h,fun h=>⟨h.ord,h.oC,h.pz,fun q' uL=>?_⟩,[],by simp,.refl _⟩
  rcases Er uL with e | hm
  ·rw [e]; exact hq bB
  ·exact h.CY q' hm
theorem Es (l:List Int) (n:Int):(vV l n).length <= l.length:=List.length_filter_le _ _
theorem CI.served (s:IW) (x:Ev):CI [] 0 0 s (bL s x):=CI.ai s _ _ fun m hm=>Nat.le_trans (Es _ _) (uo hm _)
theorem uq {s:IW} {call:Int} (h:iO s call ≠ dF) (hi:pf s):call ∈ s.aE.map (·.1):=by
 unfold iO at h
 split at h
 ·rename_i j hj
  obtain ⟨hl,hk⟩:=oX hj
  rw [<- hk]
  exact hi.CY _ (List.getElem_mem hl)
 ·exact absurd rfl h
theorem Et {s:IW} {x:Ev} (h:gQ s x = true) (hi:pf s):x.call ∈ s.aE.map (·.1):=by
 refine uq (fun e=>?_) hi
 unfold gQ at h
 rw [e] at h
 simp [dF] at h
theorem yk {s:IW} {x:Ev} (h:oY s x = true) (hi:pf s):x.call ∈ s.aE.map (·.1):=by
 unfold oY at h
 rw [Bool.or_eq_true] at h
 rcases h with h | h
 ·exact Et h hi
 ·unfold fM at h
  split at h
  ·rename_i i mf
   split at mf
   ·rename_i j hj
    exact Ke hj
   ·cases mf
  ·cases h
theorem ym {s:IW} {x:Ev} {i:Nat} (h:lG s x = some i):(s.aq.getD i kJ).st = 1 /\ (s.aq.getD i kJ).call = x.call:=by
 unfold lG at h
 split at h
 ·rename_i j hj
  split at h
  ·rename_i h2
   injection h with h
   rw [<- h]
   exact h2
  ·cases h
 ·cases h
theorem yn {s:IW} {x:Ev} {i:Nat} (h:lG s x = some i) (hi:pf s):x.call ∈ s.aE.map (·.1):=by
 have h1:=sM h
 obtain ⟨h2,h3⟩:=ym h
 rw [<- h3]
 refine hi.pz _ ?_ h2
 rw [List.getD_eq_getElem?_getD,List.getElem?_eq_getElem h1]
 exact List.getElem_mem h1
theorem CI.CZ (s:IW) (x:Ev):CI [] 0 0 s (bd s x).1:=by
 unfold bd
 split
 ·dsimp only
  exact (CI.aQ s x.bk { s.ai.getD x.bk gp with ax:=cH ((s.ai.getD x.bk gp).ax - 1) } rfl).trans (CI.nH (s.aQ x.bk { s.ai.getD x.bk gp with ax:=cH ((s.ai.getD x.bk gp).ax - 1) }) x dF fun h=>absurd rfl h)
 ·exact CI.refl s
theorem Ab (s:IW) (x:Ev):(bd s x).1.aE = s.aE /\ (bd s x).1.aq = s.aq /\ ((bd s x).2 = true -> iO s x.call ≠ dF):=by
 unfold bd
 split
 ·rename_i h
  refine ⟨?_,?_,fun _ e=>?_⟩
  ·dsimp only; unfold aW; split <;> rfl
  ·dsimp only; unfold aW; split <;> rfl
  ·rw [e] at h; simp [dF] at h
 ·exact ⟨rfl,rfl,fun h=>by cases h⟩
theorem CI.opened (s:IW) (c:IC) (hn:c.num ∉ s.aq.map (·.num)) (hs:c.st ≠ 1):CI [] 1 0 s { s with aq:=s.aq ++ [c],ord:=s.ord ++ [c.num] }:=by
 refine ⟨rfl,rfl,rfl,rfl,rfl,by simp,fun m h=>h,fun h=>⟨?_,?_,fun c' ec h1=>?_,h.CY⟩,[],by simp,.refl _⟩
 ·simp [h.ord]
 ·dsimp only
  rw [List.map_append,List.nodup_append]
  refine ⟨h.oC,by simp,fun a ha b hb=>?_⟩
  simp at hb
  rw [hb]
  exact fun e=>hn (e ▸ ha)
 ·rcases List.mem_append.1 ec with h2 | h2
  ·exact h.pz c' h2 h1
  ·simp at h2
   rw [h2] at h1
   exact absurd h1 hs
theorem yo (s:IW) (b:Bool) (k:Int):(s.aj b k).aE = s.aE /\ (s.aj b k).aq = s.aq /\ (s.aj b k).ai = s.ai:=by unfold IW.aj; split <;> exact ⟨rfl,rfl,rfl⟩
theorem CI.take (s:IW) (i:Nat) (x:Ev) (hm:x.call ∈ s.aE.map (·.1)):CI [] 0 0 s (j3 s i x):=by
 unfold j3
 have h1:=CI.bh s i { s.aq.getD i kJ with st:=1,call:=x.call,bt:=cH ((s.aq.getD i kJ).bt + 1) } rfl (fun _=>hm)
 exact h1.trans (CI.nH (s.bh i { s.aq.getD i kJ with st:=1,call:=x.call,bt:=cH ((s.aq.getD i kJ).bt + 1) }) x ⟨false,false,true⟩ (fun _=>hm))
def Hj (s s':IW):Prop:=∃ l:List Int,(l.Nodup /\ (∀ k,k ∈ l -> 1 <= k /\ k <= 11) /\ l.length <= 3) /\ CI l 1 1 s s'
theorem CI.sub {l:List Int} {c w:Nat} {s s':IW} (h:CI l c w s s') (hl:l.Nodup /\ (∀ k,k ∈ l -> 1 <= k /\ k <= 11) /\ l.length <= 3:=by decide) (hc:c <= 1:=by decide) (hw:w <= 1:=by decide):Hj s s':=⟨l,hl,h.le (.refl _) hc hw⟩
theorem Da (s:IW) (x:Ev) (hi:pf s):Hj s (eT s x).1:=by
 unfold eT
 split
 ·unfold pa
  split
  ·exact (CI.refl s).sub
  ·refine ⟨[],by decide,rfl,rfl,rfl,rfl,rfl,Nat.le_add_right _ _,fun m h b hb=>Nat.le_succ_of_le (h b hb),fun h=>⟨h.ord,h.oC,fun c hc h1=>?_,fun q hq=>?_⟩,[],by simp,List.nil_sublist _⟩
   ·rw [List.map_append]; exact List.mem_append_left _ (h.pz c hc h1)
   ·rw [List.map_append]; exact List.mem_append_left _ (h.CY q hq)
 ·unfold rK
  split
  ·exact (CI.refl s).sub
  ·rename_i i hr
   dsimp only
   obtain ⟨b,hb⟩:∃ b,s.ai.getD x.bk gp = b:=⟨_,rfl⟩
   rw [hb]
   have h1:=CI.aj s (b.down || decide (b.gV = 1)) 7
   generalize e1:s.aj (b.down || decide (b.gV = 1)) 7 = s1 at *
   have eK:s1.ai = s.ai:=by rw [<- e1]; unfold IW.aj; split <;> rfl
   have h2:CI [8] 0 0 s1 (if b.gV = 2 then (s1.aj (decide (0 < b.aM) && decide (b.aM ≠ x.call)) 8).aQ x.bk { b with aM:=x.call } else s1):=by
    split
    ·have h3:=CI.aj s1 (decide (0 < b.aM) && decide (b.aM ≠ x.call)) 8
     generalize e2:s1.aj (decide (0 < b.aM) && decide (b.aM ≠ x.call)) 8 = s2 at *
     have cz:s2.ai = s1.ai:=by rw [<- e2]; unfold IW.aj; split <;> rfl
     exact h3.trans (CI.aQ s2 x.bk { b with aM:=x.call } (by rw [cz,eK,hb]))
    ·exact (CI.refl s1).le (List.nil_sublist _) (Nat.le_refl _) (Nat.le_refl _)
   exact (((h1.trans h2).trans (CI.aj _ _ 10)).trans (CI.dU _ i _)).sub
 ·unfold qe
  split
  ·exact (CI.refl s).sub
  ·rename_i hc
   have hm:oY s x = true:=by simp at hc; exact hc.2
   dsimp only
   obtain ⟨b,hb⟩:∃ b,s.ai.getD x.bk gp = b:=⟨_,rfl⟩
   rw [hb]
   have h1:CI [] 0 1 s (s.aQ x.bk { b with waits:=b.waits ++ [x.call] }):=CI.ai s x.bk _ fun m hm=>by have:=uo hm x.bk; rw [hb] at this; simp; omega
   exact ((h1.trans (CI.nH (s.aQ x.bk { b with waits:=b.waits ++ [x.call] }) x ⟨false,true,false⟩ fun _=>(show x.call ∈ s.aE.map (·.1) from yk hm hi))).trans (CI.aj _ _ 3)).sub
 ·unfold mY
  split
  ·exact ((CI.served s x).trans (CI.nH _ x dF fun h=>absurd rfl h)).sub
  ·exact (CI.refl s).sub
 ·unfold rJ
  split
  ·rename_i hm
   dsimp only
   exact (((((CI.aj s (gj s x) 9).trans (CI.served _ x)).trans (CI.nH _ x ⟨true,false,false⟩ fun _=>by
    have:=yk hm hi
    unfold IW.aj
    split <;> exact this)).trans (CI.aQ _ x.bk _ (by rfl))).trans (CI.aj _ _ 2)).sub
  ·exact (CI.refl s).sub
 ·exact (CI.CZ s x).sub
 ·unfold rL
  split
  ·exact (CI.refl s).sub
  ·rename_i pK
   have hd:=CI.CZ s x
   have hq:=Ab s x
   dsimp only
   generalize bd s x = d at *
   split
   ·rename_i hd2
    have ad8:x.call ∈ d.1.aE.map (·.1):=by rw [hq.1]; exact uq (hq.2.2 hd2) hi
    have hnn:x.conn ∉ d.1.aq.map (·.num):=by
     rw [hq.2.1]
     intro hm
     rw [List.findIdx?_eq_none_iff] at pK
     have:=pK _ hm
     simp at this
    have h2:=CI.opened d.1 ⟨x.conn,x.bk,0,d.1.now,-1,0,0,3,0,0⟩ hnn (by show (3:Int) ≠ 1; decide)
    dsimp only at h2
    generalize nA:({ d.1 with aq:=d.1.aq ++ [(⟨x.conn,x.bk,0,d.1.now,-1,0,0,3,0,0⟩:IC)],ord:=d.1.ord ++ [x.conn] }:IW) = s2 at *
    have cz:d.1.ai = s2.ai:=by rw [<- nA]
    have sy:s2.aE = d.1.aE:=by rw [<- nA]
    dsimp only
    split
    ·exact (((hd.trans h2).trans (CI.aQ s2 x.bk _ (by rw [<- cz]))).trans (CI.take _ _ x (by show x.call ∈ s2.aE.map (·.1); rw [sy]; exact ad8))).sub
    ·exact ((hd.trans h2).trans (CI.aQ s2 x.bk _ (by rw [<- cz]))).sub
   ·exact hd.sub
 ·unfold ng
  split
  ·rename_i hm
   split
   ·exact (CI.fault s 4).sub
   ·rename_i i hti
    dsimp only
    split
    ·exact (CI.fault s 4).sub
    ·split
     ·exact (CI.fault s 1).sub
     ·have h1:=CI.aj s (gj s x) 9
      have q1:=(yo s (gj s x) 9).1
      generalize s.aj (gj s x) 9 = s1 at *
      obtain ⟨B,hB⟩:∃ B,(decide ((s.aN.getD x.bk ⟨0,0,0,0⟩).xU <= cH (s.now - (s.aq.getD i kJ).born)) || (decide ((s.aq.getD i kJ).st = 2) && decide ((s.aN.getD x.bk ⟨0,0,0,0⟩).idle <= cH (s.now - (s.aq.getD i kJ).since)))) = B:=⟨_,rfl⟩
      rw [hB]
      have h2:=CI.aj s1 B 5
      have q2:=(yo s1 B 5).1
      generalize s1.aj B 5 = s2 at *
      exact (((h1.trans h2).trans (CI.served s2 x)).trans (CI.take _ i x (by show x.call ∈ s2.aE.map (·.1); rw [q2,q1]; exact yk hm hi))).sub
  ·exact (CI.refl s).sub
 ·unfold rH
  split
  ·exact (CI.fault s 4).sub
  ·rename_i i ho
   split
   ·exact (CI.refl s).sub
   ·rename_i j hj
    dsimp only
    obtain ⟨h2,h3⟩:=ym ho
    have hm:=yn ho hi
    obtain ⟨B,hB⟩:∃ B,(!(s.aE.getD j (0,o7)).2.idem && decide (0 < (s.aE.getD j (0,o7)).2.cj) && decide ((s.aE.getD j (0,o7)).2.cj < (s.aE.getD j (0,o7)).2.aO)) = B:=⟨_,rfl⟩
    rw [hB]
    have hq:=yo s B 10
    refine ((CI.aj s B 10).trans ((CI.dU _ j _).trans (CI.bh _ i _ ?_ fun _=>?_))).sub
    ·show _ = ((s.aj B 10).aq.getD i kJ).num
     rw [hq.2.1]
    ·dsimp only
     rw [h3]
     show _ ∈ List.map (·.1) ((s.aj B 10).aE.set j (((s.aj B 10).aE.getD j (0,o7)).1,_))
     rw [Aa,hq.1]
     exact hm
 ·unfold rG
  split
  ·exact (CI.fault s 4).sub
  ·rename_i i ho
   dsimp only
   obtain ⟨h2,h3⟩:=ym ho
   have hm:=yn ho hi
   have hq:=yo s (decide (x.kf ≠ x.call)) 6
   exact ((CI.aj s _ 6).trans (CI.bh _ i _ (by rw [hq.2.1]) (fun _=>by rw [hq.1]; dsimp only; rw [h3]; exact hm))).sub
 ·unfold rE
  split
  ·exact (CI.refl s).sub
  ·rename_i i ho
   dsimp only
   exact ((CI.bh s i { s.aq.getD i kJ with st:=if x.yes then 3 else 4,call:=0 } rfl (fun h=>by dsimp only at h; split at h <;> exact absurd h (by decide))).trans (CI.nH _ x dF fun h=>absurd rfl h)).sub
 ·unfold rF
  split
  ·exact (CI.fault s 4).sub
  ·dsimp only
   split
   ·exact (CI.fault s 4).sub
   ·split
    ·exact (CI.fault s 1).sub
    ·split
     ·exact (CI.refl s).sub
     ·exact (CI.bh s _ _ (by rfl) (fun h=>by dsimp only at h; exact absurd h (by decide))).sub
 ·unfold mZ
  split
  ·exact (CI.fault s 4).sub
  ·rename_i i _
   dsimp only
   split
   ·exact (CI.refl s).sub
   ·exact ((CI.bh s i { s.aq.getD i kJ with st:=5,gone:=s.now } rfl (fun h=>by dsimp only at h; exact absurd h (by decide))).trans (CI.aQ (s.bh i { s.aq.getD i kJ with st:=5,gone:=s.now }) x.bk _ (by rfl))).sub
 ·exact (CI.aQ s x.bk _ (by rfl)).sub
 ·exact (CI.aQ s x.bk _ (by rfl)).sub
 ·unfold ky
  split
  ·exact (CI.refl s).sub
  ·dsimp only
   split
   ·exact (CI.refl s).sub
   ·split
    ·exact (CI.aQ s x.bk _ (by rfl)).sub
    ·exact (CI.refl s).sub
 ·unfold yh
  split
  ·exact (CI.dU s _ _).sub
  ·exact (CI.refl s).sub
 ·refine ⟨[],by decide,rfl,rfl,rfl,rfl,rfl,Nat.le_add_right _ _,fun m h b hb=>Nat.le_succ_of_le (h b hb),fun h=>⟨h.ord,h.oC,h.pz,h.CY⟩,[],by simp [tX],List.nil_sublist _⟩
 ·unfold qi
  split
  ·exact (CI.aj s _ 11).sub
  ·exact (CI.refl s).sub
structure Nd where
 call:Bool
 bk:Bool
 conn:Bool
 kf:Bool
 low:Int
 high:Int
def Rq (n:Nd):List V:=[.bool n.call,.bool n.bk,.bool n.conn,.bool n.kf,iI n.low,iI n.high]
def nd (k:Nat):Nd:=match k with
 | 1 | 17=>⟨true,false,false,false,0,0⟩
 | 2 | 4 | 5 | 6 | 16=>⟨true,true,false,false,0,0⟩
 | 3=>⟨true,true,false,false,0,1000000000000⟩
 | 7 | 8 | 11=>⟨true,true,true,false,0,0⟩
 | 9=>⟨true,true,true,false,1,1000000000⟩
 | 10=>⟨true,true,true,true,1,1000000000⟩
 | 12 | 13=>⟨false,true,true,false,0,0⟩
 | 14=>⟨false,true,false,false,0,0⟩
 | 15=>⟨false,true,false,false,0,2⟩
 | _=>⟨false,false,false,false,0,0⟩
def jh (k:Nat):V:=.agg (Rq (nd k) ++ [if k = 0 then .gY else .fn (.func (68 + k)) []])
def Hk:bF:=.row 86 7 ((List.range 20).map jh)
theorem Db (bx:aa):aw prog 34 [] bx fun r bx'=>∃ b,bx b = none /\ r = .own b 7 0 20 /\ bx' = aB bx b (some Hk):=by
 refine VD fun hf=>?_
 simp [go_sem,C34,hf]
 intro b1 h1 b2 h2 b3 h3
 have e1:aB bx b1 none = bx:=by funext c; by_cases e:c = b1; · rw [e,af,h1]
                                ·rw [ae _ _ e]
 rw [e1] at h2 h3 ⊢
 have e2:aB bx b2 none = bx:=by funext c; by_cases e:c = b2; · rw [e,af,h2]
                                ·rw [ae _ _ e]
 rw [e2] at h3 ⊢
 exact al (by simp [go_sem]) ⟨b3,h3,by simp [go_sem],rfl⟩
def yp (n:Nd) (x:Ev) (b nb:Int):Bool :=
 decide (x.t < 0) || decide (1000000000000 < x.t) || (n.call && decide (x.call < 1)) || (n.bk && (decide (b < 0) || decide (nb <= b))) || (n.conn && decide (x.conn < 1)) || (n.kf && decide (x.kf < 1)) || (decide (0 < n.high) && (decide (x.n < n.low) || decide (n.high < x.n)))
theorem Xo (n:Nd) (x:Ev) (b nb:Int) (bx:aa):ay prog 35 [.agg (Rq n),dQ x b,.int .i64 nb] bx (.bool (yp n x b nb)):=by
 refine VF fun hf=>?_
 simp [go_sem,C35,hf,Rq,dQ,iI]
 obtain ⟨nc,nb',nn,no,lo,hi⟩:=n
 dsimp only
 repeat' (with_reducible apply And.intro)
 all_goals first
  | (exact aA (by simp [go_sem]) ⟨by simp [go_sem,yp,Bool.or_assoc],rfl⟩)
  | (intros; grind)
def B7 (n lo hi:Int):Bool:=decide (n < lo) || decide (hi < n)
theorem nI (n lo hi:Int) (bx:aa):ay prog 110 [.int .i64 n,.int .i64 lo,.int .i64 hi] bx (.bool (B7 n lo hi)):=by
 refine NJ fun hf=>?_
 simp [go_sem,Wu,hf]
 exact aA (by simp [go_sem]) ⟨by simp [go_sem,B7],rfl⟩
def ik (m:eR):Bool:=B7 m.max 1 64 || B7 m.queue 0 64 || B7 m.idle 1 1000000000000 || B7 m.xU 1 1000000000000
theorem Kf (m:eR) (bx:aa):ay prog 68 [bG m] bx (.bool (ik m)):=by
 refine VU fun hf=>?_
 simp [go_sem,C68,hf,bG,iI]
 refine ah (nI _ _ _ bx) ?_
 simp [go_sem]
 refine dI (nI _ _ _ _) (by simp) (by simp [go_sem]) ?_
 simp [go_sem]
 refine dI (nI _ _ _ _) (by simp) (by simp [go_sem]) ?_
 simp [go_sem]
 refine dI (nI _ _ _ _) (by simp) (by simp [go_sem]) ?_
 simp [go_sem]
 exact aA (by simp [go_sem]) ⟨by simp [go_sem,ik],rfl⟩
theorem Hl (L:List eR) (hl:L.length <= 1000000) (bx:aa):ay prog 109 [.sl 4 (L.map bG),.fn (.func 68) []] bx (.int .i64 (vl ik L)):=by
 refine NI fun hf=>?_
 simp [go_sem,Wt,hf]
 refine eG L.length (fun i=>ik (L.getD i ⟨0,0,0,0⟩)) (fun i=>⟨19,bR [(0,.sl 4 (L.map bG)),(1,.fn (.func 68) []),(7,.int .i64 L.length),(8,.int .i64 i)],bx⟩) (ak (by simp [go_sem])) (fun i hi hJ N hN=>?_) (fun hJ N=>?_)
 ·have hw:=bj (k:=i) (by omega)
  have hg:L.getD i ⟨0,0,0,0⟩ = L[i]:=by simp [hi]
  rw [hg] at hN
  simp [go_sem,Br,hi,hf,hw]
  refine ⟨Nat.le_refl 4,ah (Kf L[i] bx) ?_⟩
  cases hpi:ik L[i]
  ·simp [go_sem,hf,hw]
   exact hN _ hpi (ak (by simp [go_sem]))
  ·simp [go_sem,hf,hw]
   refine aA (by simp [go_sem]) ⟨?_,rfl⟩
   simp [go_sem,zK hi hJ hpi]
 ·simp [go_sem,Br,hf]
  refine aA (by simp [go_sem]) ⟨?_,rfl⟩
  simp [go_sem,vU hJ]
theorem Hm {α:Type} (p:α -> Bool) (l:List α):decide (0 <= vl p l) = l.any p:=by
 rcases CJ p l with ⟨h1,h2⟩ | ⟨i,hi,h1,h2,_⟩
 ·rw [h1]
  symm
  rw [show decide ((0:Int) <= -1) = false by decide,List.any_eq_false]
  intro x hx
  simp [h2 x hx]
 ·rw [h1]
  have:l.any p = true:=List.any_eq_true.2 ⟨_,List.getElem_mem hi,h2⟩
  rw [this]
  simp
theorem rQ (L:List eR) (hl:L.length <= 1000000) (bx:aa):ay prog 67 [.sl 4 (L.map bG),.fn (.func 68) []] bx (.bool (L.any ik)):=by
 refine VT fun hf=>?_
 simp [go_sem,C67,hf]
 refine ah (Hl L hl bx) ?_
 simp [go_sem]
 exact aA (by simp [go_sem]) ⟨by simp [go_sem,Hm],rfl⟩
def ji (m:eR):V:=.agg [iI m.max,iI m.queue,iI m.idle,iI m.xU,.aH,.aH,.aH,.aH,.bool true,iI 0,iI 0]
def jG (L:List eR):Int:=if L.length = 0 \/ 16 < L.length then 3 else if L.any ik then 7 else 0
def eE (w:V):V:=.agg [iI 0,.bool false,w]
theorem Xp (L:List eR) (hl:L.length <= 1000000) (bx:aa):aw prog 33 [.sl 4 (L.map bG)] bx fun r bx'=>bx' = bx /\ ∃ w,(w = .aH \/ ∃ es,w = .sl 11 es) /\ r = .dc [eE w,iI (jG L)]:=by
 obtain ⟨Kc,eZ⟩:∃ Kc:V -> aa -> Prop,Kc = fun r bx'=>bx' = bx /\ ∃ w,(w = .aH \/ ∃ es,w = .sl 11 es) /\ r = .dc [eE w,iI (jG L)]:=⟨_,rfl⟩
 rw [<- eZ]
 refine VC fun hf=>?_
 have jN:∀ (e:Int),jG L = e -> Kc (.dc [eE .aH,.int .i64 e]) bx:=fun e he=>by rw [eZ]; exact ⟨rfl,.aH,.inl rfl,by rw [he]; rfl⟩
 have hold:∀ (b2 b4:Nat) (x y z:bF),bx b2 = none -> aB bx b2 (some x) b4 = none -> Ext bx (aB (aB bx b2 (some y)) b4 (some z)):=by
  intro b2 b4 x y z h2 h4
  have h5:bx b4 = none:=by
   by_cases e:b4 = b2
   ·rw [e,h2]
   ·rwa [ae _ _ e] at h4
  exact ((Ext.refl bx).aJ h2 (some y)).aJ h5 (some z)
 by_cases c1:L = [] \/ 16 < L.length
 ·have c1':L = [] \/ (16:Int) < (L.length:Int):=by
   rcases c1 with c | c
   ·exact .inl c
   ·exact .inr (by omega)
  have hz:jG L = 3:=by
   unfold jG
   rw [if_pos]
   rcases c1 with c | c
   ·exact .inl (by rw [c]; rfl)
   ·exact .inr c
  simp [go_sem,C33,hf,c1']
  intro b2 h2 b4 h4
  have n24:b2 ≠ b4:=by rintro rfl; simp [af] at h4
  simp [go_sem,hf,n24,n24.symm,af,ae,an]
  refine ⟨?_,fun h1 h2=>by
   rcases c1' with c | c
   ·exact absurd c h1
   ·omega⟩
  refine fw 3 (by simp [go_sem,af]) ((hold b2 b4 _ _ _ h2 h4).aJ h2 _) ?_
  simp [go_sem,af,cK]
  exact jN 3 hz
 have c2:¬ L = []:=fun h=>c1 (.inl h)
 have c3:(L.length:Int) <= 16:=by have:¬ 16 < L.length:=fun h=>c1 (.inr h); omega
 have c4:¬ (16:Int) < (L.length:Int):=by omega
 cases ha:L.any ik
 rotate_left
 ·have hz:jG L = 7:=by
   unfold jG
   rw [if_neg,ha]
   ·rfl
   ·rintro (h | h)
    ·exact c2 (List.length_eq_zero_iff.1 h)
    ·omega
  simp [go_sem,C33,hf,c2,c3,c4]
  intro b2 h2 b4 h4
  have n24:b2 ≠ b4:=by rintro rfl; simp [af] at h4
  refine ah (rQ L hl _) ?_
  rw [ha]
  simp [go_sem,hf,n24,n24.symm,af,ae,an]
  refine fw 3 (by simp [go_sem,af]) ((hold b2 b4 _ _ _ h2 h4).aJ h2 _) ?_
  simp [go_sem,af,cK]
  exact jN 7 hz
 ·have hz:jG L = 0:=by
   unfold jG
   rw [if_neg,ha]
   ·rfl
   ·rintro (h | h)
    ·exact c2 (List.length_eq_zero_iff.1 h)
    ·omega
  simp [go_sem,C33,hf,c2,c3,c4]
  intro b2 h2 b4 h4
  have n24:b2 ≠ b4:=by rintro rfl; simp [af] at h4
  refine ah (rQ L hl _) ?_
  rw [ha]
  simp [go_sem,hf,n24,n24.symm,af,ae,an]
  have h40:bx b4 = none:=by
   by_cases e:b4 = b2
   ·rw [e,h2]
   ·rwa [ae _ _ e] at h4
  refine iM (ι:=V × aa) L.length (fun k p=>ba p.2 /\ Ext bx p.2 /\ p.2 b2 = some (.row 57 3 [eE .aH]) /\ p.2 b4 = some (.row 57 3 [eE p.1]) /\ aY p.2 154 11 ((L.take k).map ji) p.1 /\ kg bx p.1) (fun k p=>⟨36,bR [(2,.ptr b2 3 0 0),(4,.ptr b4 3 0 0),(21,.sl 4 (L.map bG)),(22,.int .i64 L.length),(23,.int .i64 k)],p.2⟩) (.aH,aB (aB bx b2 (some (.row 57 3 [eE .aH]))) b4 (some (.row 57 3 [eE .aH]))) ⟨(an _ _ _).2 ((an _ _ _).2 hf),hold b2 b4 _ _ _ h2 h4,by dsimp only; rw [ae _ _ n24,af],af _ _ _,.inl ⟨by simp,rfl⟩,fun b sz o m e=>by cases e⟩ (ak (by simp [go_sem,eE,iI])) (fun k p hk hJ N hN=>?_) (fun p hJ N=>?_)
  ·obtain ⟨v,bP⟩:=p
   obtain ⟨bg,iH,cz,yq,ho,hn⟩:=hJ
   dsimp only at bg iH cz yq ho hn ⊢
   have hw:=bj (k:=k) (by omega)
   simp [go_sem,Gr,hk,bg,cz,yq,eE,bG,iI,ho.strip,ho.live,ho.okV,ho.cells]
   intro b6 h6
   have e6:aB bP b6 none = bP:=by
    funext c
    by_cases e:c = b6
    ·rw [e,af,h6]
    ·rw [ae _ _ e]
   rw [e6]
   simp [go_sem,bg,yq,eE,iI,ho.strip,ho.live,ho.okV,ho.cells]
   intro b5 h5
   have n45:b4 ≠ b5:=by rintro rfl; rw [yq] at h5; cases h5
   have n25:b2 ≠ b5:=by rintro rfl; rw [cz] at h5; cases h5
   have Pc:aY (aB bP b5 (some (.row 154 11 [ji L[k]]))) 154 11 ((L.take k).map ji) v:=by
    rcases ho with h | ⟨b,hv,hb⟩
    ·exact .inl h
    ·exact .inr ⟨b,hv,by rw [ae _ _ (by rintro rfl; rw [hb] at h5; cases h5),hb]⟩
   have nG:ba (aB bP b5 (some (.row 154 11 [ji L[k]]))):=(an _ _ _).2 bg
   have Kg:bx b5 = none:=iH.none h5
   have EP:Ext bx (aB bP b5 (some (.row 154 11 [ji L[k]]))):=iH.aJ Kg _
   have Kh:aB bP b5 (some (.row 154 11 [ji L[k]])) b4 = some (.row 57 3 [eE v]):=by rw [ae _ _ n45,yq]
   have Ki:aB bP b5 (some (.row 154 11 [ji L[k]])) b2 = some (.row 57 3 [eE .aH]):=by rw [ae _ _ n25,cz]
   have Xq:aB bP b5 (some (.row 154 11 [ji L[k]])) b5 = some (.row 154 11 [ji L[k]]):=af _ _ _
   simp only [ji,iI] at Pc nG EP Kh Ki Xq
   generalize aB bP b5 (some (bF.row 154 11 [V.agg [V.int .i64 L[k].max,V.int .i64 L[k].queue,V.int .i64 L[k].idle,V.int .i64 L[k].xU,.aH,.aH,.aH,.aH,.bool true,V.int .i64 0,V.int .i64 0]])) = jt at *
   refine dx (.agg #[.int .i64 0,.int .i64 0,.int .i64 0,.int .i64 0,.slice none 0 0,.slice none 0 0,.slice none 0 0,.slice none 0 0,.bool false,.int .i64 0,.int .i64 0]) Pc nG (news:=[ji L[k]]) L1 Gh (by simp [go_sem,bM,Xq,ji,iI]) zC (by simp [go_sem]) (by decide) (by simp [Gi]; omega) (by simp; omega) (by simp [go_sem]) fun v' bx' ha hm _=>?_
   obtain ⟨e1,e2⟩:=hm.base EP hn
   have Pd:∀ sz o m,v ≠ .own b4 sz o m:=Pc.ne Kh (by decide)
   have Bh:∀ sz o m,v ≠ .own b2 sz o m:=Pc.ne Ki (by decide)
   have Hn:bx' b4 = _:=(hm.other (by rw [Kh]; simp) Pd).trans Kh
   have uU:bx' b2 = _:=(hm.other (by rw [Ki]; simp) Bh).trans Ki
   have fI:aY bx' 154 11 ((L.take (k + 1)).map ji) v':=by
    rw [List.take_succ_eq_append_getElem hk,List.map_append]; exact ha
   simp [go_sem,Hn,uU,hm.fin,ha.strip,ha.live,ha.cells,ha.okV,eE,iI,hw]
   exact hN _ (v',aB bx' b4 (some (.row 57 3 [eE v']))) ⟨(an _ _ _).2 hm.fin,e1.aJ h40 _,by dsimp only; rw [ae _ _ n24,uU],af _ _ _,fI.put Hn (by decide) _,e2⟩ (ak (by simp [go_sem,eE,iI]))
  ·obtain ⟨v,bP⟩:=p
   obtain ⟨bg,iH,cz,yq,ho,hn⟩:=hJ
   dsimp only at bg iH cz yq ho hn ⊢
   rw [List.take_of_length_le (Nat.le_refl _)] at ho
   have n24':b2 ≠ b4:=n24
   have ad9:bx b2 = none:=h2
   simp [go_sem,Gr,bg,cz,yq,eE,iI,ho.strip,ho.live,ho.okV,ho.cells]
   refine fw 3 (by simp [go_sem,af]) (iH.aJ ad9 _) ?_
   have sb:∃ w,(w = .aH \/ ∃ es,w = .sl 11 es) /\ cK (aB bP b2 (some (bF.row 57 3 [V.agg [V.int .i64 0,V.bool false,v]]))) bx 1 v = w:=by
    rcases ho with ⟨_,rfl⟩ | ⟨b,rfl,hb⟩
    ·exact ⟨.aH,.inl rfl,rfl⟩
    ·refine ⟨_,.inr ⟨_,rfl⟩,fe (bx:=aB bP b2 _) (by rw [ae _ _ (by rintro rfl; rw [cz] at hb; cases hb)]; exact hb) (hn _ _ _ _ rfl) (by decide) rfl⟩
   obtain ⟨w,ja,jI⟩:=sb
   have e3:cK (aB bP b2 (some (bF.row 57 3 [V.agg [V.int IntKind.i64 0,V.bool false,v]]))) bx 3 (.dc [.agg [.int .i64 0,.bool false,v],.int .i64 0]) = .dc [eE w,.int .i64 0]:=by
    simp only [cK,List.map_cons,List.map_nil,jI,eE,iI]
   have e4:kG prog ⟨36,bR [(2,V.ptr b2 3 0 0),(3,V.int .i64 0)],aB bP b2 (some (bF.row 57 3 [V.agg [V.int IntKind.i64 0,V.bool false,v]]))⟩ [.cell 2 57,.tmp 3] = .dc [.agg [.int .i64 0,.bool false,v],.int .i64 0]:=by simp [go_sem,af]
   rw [e4,e3,eZ,hz]
   exact ⟨rfl,w,ja,rfl⟩
def ck (L:List eR) (most:Int) (l:List Ex):V:=.agg [.sl 4 (L.map bG),iI most,.sl 8 (l.map ey)]
def dY (nb:Nat) (e:Ex):Bool:=decide (e.ev.kind < 1) || decide (20 <= e.ev.kind) || yp (nd e.ev.kind.toNat) e.ev e.b nb
def bu (L:List eR) (most:Int) (l:List Ex):Int × Int :=
 if jG L ≠ 0 then (-1,jG L) else if most < 0 \/ 20 < most then (-1,7) else if 2000 < l.length then (-1,3)
 else match l.findIdx? (dY L.length) with
  | some i=>(i,2)
  | none=>(0,0)
theorem B8 (k:Nat):V.agg (List.take 6 (jh k).cells) = .agg (Rq (nd k)):=rfl
theorem we (k:Nat):(jh k).cells.length = 7:=rfl
def ex0:Ex:=⟨⟨0,0,0,0,0,0,0,false⟩,0⟩
theorem Dc (L:List eR) (most:Int) (l:List Ex) (hL:L.length <= 1000000) (hl:l.length <= 4000000000000000000) (bx:aa):ay prog 13 [ck L most l] bx (.dc [iI (bu L most l).1,iI (bu L most l).2]):=by
 obtain ⟨Kc,eZ⟩:∃ Kc:V -> aa -> Prop,Kc = fun r bx'=>r = .dc [iI (bu L most l).1,iI (bu L most l).2] /\ bx' = bx:=⟨_,rfl⟩
 show aw _ _ _ _ (fun r bx'=>r = .dc [iI (bu L most l).1,iI (bu L most l).2] /\ bx' = bx)
 rw [<- eZ]
 refine V0 fun hf=>?_
 have en:∀ (i e:Int),bu L most l = (i,e) -> Kc (.dc [.int .i64 i,.int .i64 e]) bx:=fun i e he=>by rw [eZ,he]; exact ⟨rfl,rfl⟩
 obtain ⟨R,hR⟩:∃ R,bu L most l = R:=⟨_,rfl⟩
 rw [hR] at en
 unfold bu at hR
 simp [go_sem,C13,hf,ck]
 refine ar (Xp L hL bx) ?_
 rintro r bP ⟨eK,w,hw,rfl⟩
 rw [eK]
 have hwc:w.cells = [w] /\ okV w = true /\ w.strip = w /\ w.az = true:=by
  rcases hw with rfl | ⟨es,rfl⟩ <;> exact ⟨rfl,rfl,rfl,rfl⟩
 obtain ⟨w1,w2,w3,w4⟩:=hwc
 have hE:∀ (b:Nat) (x:bF),bx b = none -> Ext bx (aB bx b (some x)):=fun b x hb=>(Ext.refl bx).aJ hb _
 by_cases e1:jG L = 0
 rotate_left
 ·rw [if_pos e1] at hR
  simp [go_sem,hf,eE,w1,w2,w3,w4,iI,e1]
  intro b hb
  exact bp (by simp [go_sem]) (hE _ _ hb) (by simp [go_sem]; exact en _ _ hR.symm)
 rw [if_neg (by simpa using e1)] at hR
 by_cases c2:most < 0 \/ 20 < most
 ·rw [if_pos c2] at hR
  simp [go_sem,hf,eE,w1,w2,w3,w4,iI,e1,c2]
  intro b hb
  refine ⟨bp (by simp [go_sem]) (hE _ _ hb) (by simp [go_sem]; exact en _ _ hR.symm),fun h1 h2=>?_⟩
  omega
 rw [if_neg c2] at hR
 have c3:¬ most < 0:=fun h=>c2 (.inl h)
 have c4:most <= 20:=by have:¬ 20 < most:=fun h=>c2 (.inr h); omega
 by_cases c5:2000 < l.length
 ·rw [if_pos c5] at hR
  have c5':(2000:Int) < (l.length:Int):=by omega
  simp [go_sem,hf,eE,w1,w2,w3,w4,iI,e1,c3,c4,c5']
  intro b hb
  refine ⟨fun h=>by omega,bp (by simp [go_sem]) (hE _ _ hb) (by simp [go_sem]; exact en _ _ hR.symm)⟩
 rw [if_neg c5] at hR
 have c5':¬ (2000:Int) < (l.length:Int):=by omega
 simp [go_sem,hf,eE,w1,w2,w3,w4,iI,e1,c3,c4,c5']
 intro b hb
 refine ⟨fun h=>by omega,?_⟩
 refine ar (Db _) ?_
 rintro r bx2 ⟨b7,h7,rfl,mJ⟩
 have cQ:Ext bx bx2:=by
  rw [mJ]
  have h70:bx b7 = none:=(hE b (.row 57 3 [.agg [.int .i64 0,.bool false,w]]) hb).none h7
  exact (hE b _ hb).aJ h70 _
 obtain ⟨RL,Pe⟩:∃ RL,(List.range 20).map jh = RL:=⟨_,rfl⟩
 have hr7:bx2 b7 = some (.row 86 7 RL):=by rw [mJ,af,<- Pe]; rfl
 have Iu:RL.length = 20:=by rw [<- Pe]; rfl
 have hRn:∀ n,n < 20 -> RL[n]? = some (jh n):=fun n hn=>by rw [<- Pe,List.getElem?_map,List.getElem?_range hn]; rfl
 have hRg:∀ n (h:n < RL.length),n < 20 -> RL[n] = jh n:=fun n h hn=>by have:=hRn n hn; rw [List.getElem?_eq_getElem h] at this; injection this
 have cm:ba bx2:=by rw [mJ]; exact (an _ _ _).2 ((an _ _ _).2 hf)
 clear mJ
 simp [go_sem,cm]
 refine eG l.length (fun i=>dY L.length (l.getD i ex0)) (fun i=>⟨66,bR [(1,.ep (.agg [.sl 4 (L.map bG),.int .i64 most,.sl 8 (l.map ey)]) 0),(6,.own b7 7 0 20),(34,.sl 8 (l.map ey)),(35,.int .i64 l.length),(36,.int .i64 i)],bx2⟩) (ak (by simp [go_sem])) (fun i hi hJ N hN=>?_) (fun hJ N=>?_)
 ·have hg:l.getD i ex0 = l[i]:=by simp [hi]
  rw [hg] at hN
  have hw:=bj (k:=i) (by omega)
  have Ho:dY L.length l[i] = true -> R = ((i:Int),(2:Int)):=by
   intro A0
   rw [<- hR]
   have:l.findIdx? (dY L.length) = some i:=by
    rw [List.findIdx?_eq_some_iff_getElem]
    refine ⟨hi,A0,fun j hj=>?_⟩
    have h1:=hJ j hj
    have h2:j < l.length:=by omega
    simp [h2] at h1
    simp [h1]
   rw [this]
  have Ac:∀ b,bx2 b = none -> aB bx2 b none = bx2:=fun b hb=>by
   funext c
   by_cases e:c = b
   ·rw [e,af,hb]
   ·rw [ae _ _ e]
  by_cases k1:l[i].ev.kind < 1
  ·have A0:dY L.length l[i] = true:=by simp [dY,k1]
   simp [go_sem,zD,cm,hi,ey,dQ,iI,k1]
   intro b hb
   rw [Ac b hb]
   refine js (.bool false) (by simp [go_sem]) ?_
   simp [go_sem,cm]
   exact bp (by simp [go_sem]) cQ (by simp [go_sem]; exact en _ _ (Ho A0))
  by_cases k2:20 <= l[i].ev.kind
  ·have A0:dY L.length l[i] = true:=by simp [dY,k2]
   simp [go_sem,zD,cm,hi,ey,dQ,iI,k1,k2]
   intro b hb
   rw [Ac b hb]
   refine js (.bool false) (by simp [go_sem]) ?_
   simp [go_sem,cm]
   exact bp (by simp [go_sem]) cQ (by simp [go_sem]; exact en _ _ (Ho A0))
  obtain ⟨n,hn⟩:∃ n:Nat,l[i].ev.kind = n:=⟨l[i].ev.kind.toNat,by omega⟩
  have Pf:n < 20:=by omega
  have k3:¬ (n:Int) < 1:=by omega
  have k4:¬ (20:Int) <= n:=by omega
  have k5:(n:Int) < 20:=by omega
  have k6:(1:Int) <= n:=by omega
  simp [go_sem,zD,cm,hi,ey,dQ,iI,hn,k3,k4,k5,k6]
  intro b hb
  rw [Ac b hb]
  simp [go_sem,cm,hr7,Pf,Iu,hRg,we,B8]
  have evh:V.agg [V.int .i64 n,V.int .i64 l[i].b,V.int .i64 l[i].ev.t,V.int .i64 l[i].ev.call,V.int .i64 l[i].ev.conn,V.int .i64 l[i].ev.kf,V.int .i64 l[i].ev.n,V.bool l[i].ev.yes] = dQ l[i].ev l[i].b:=by simp [dQ,iI,hn]
  rw [evh]
  refine dI (Xo (nd n) l[i].ev l[i].b L.length bx2) (by simp [go_sem]) (by simp [go_sem]) ?_
  have he:dY L.length l[i] = yp (nd n) l[i].ev l[i].b L.length:=by
   unfold dY
   rw [hn]
   simp [k3,k4]
  cases cz:yp (nd n) l[i].ev l[i].b L.length
  ·rw [cz] at he
   simp [go_sem,cm,hw]
   exact hN _ he (ak (by simp [go_sem]))
  ·rw [cz] at he
   simp [go_sem,cm]
   exact bp (by simp [go_sem]) cQ (by simp [go_sem]; exact en _ _ (Ho he))
 ·have hz:R = (0,0):=by
   rw [<- hR]
   have:l.findIdx? (dY L.length) = none:=by
    rw [List.findIdx?_eq_none_iff]
    intro x hx
    obtain ⟨i,hi,rfl⟩:=List.getElem_of_mem hx
    have:=hJ i hi
    simpa [hi] using this
   rw [this]
  simp [go_sem,zD,cm]
  exact bp (by simp [go_sem]) cQ (by simp [go_sem]; exact en _ _ hz)
def bU (w:RW):List Int:=w.aE.map (·.call)
structure ER (w:RW):Prop where
 c:∀ c,c ∈ w.aq -> c.st = 1 -> c.call ∈ bU w
 d:∀ b,b ∈ w.ai -> ∀ n,n ∈ b.ax -> n ∈ bU w
 q:∀ b,b ∈ w.ai -> ∀ n,n ∈ b.waits -> n ∈ bU w
theorem Ad (w:RW) (n:Int):(∃ j,dy w n = some j) ↔ n ∈ bU w:=by
 unfold dy bU
 constructor
 ·rintro ⟨j,h⟩
  rw [List.findIdx?_eq_some_iff_getElem] at h
  obtain ⟨hj,h1,_⟩:=h
  simp at h1
  rw [<- h1]
  exact List.mem_map.2 ⟨_,List.getElem_mem hj,rfl⟩
 ·intro h
  obtain ⟨r,hr,rfl⟩:=List.mem_map.1 h
  cases hc:w.aE.findIdx? (fun x=>x.call == r.call) with
  | some j=>exact ⟨j,rfl⟩
  | none =>
    rw [List.findIdx?_eq_none_iff] at hc
    have:=hc r hr
    simp at this
theorem ER.begun {w:RW} (h:ER w):CS w:=fun c hc h1=>(Ad w c.call).2 (h.c c hc h1)
structure eo (f c r q:Nat) (w w':RW):Prop where
 kO:w'.kO = w.kO
 aN:w'.aN = w.aN
 most:w'.most = w.most
 len:w'.ai.length = w.ai.length
 aI:w'.aI.length <= w.aI.length + f
 aq:w'.aq.length <= w.aq.length + c
 aE:w'.aE.length <= w.aE.length + r
 Hp:∀ m,(∀ b,b ∈ w.ai -> b.waits.length <= m /\ b.ax.length <= m) -> ∀ b,b ∈ w'.ai -> b.waits.length <= m + q /\ b.ax.length <= m + q
 sub:∀ n,n ∈ bU w -> n ∈ bU w'
 pz:ER w -> ER w'
 pre:w.aI <+: w'.aI
theorem eo.refl (w:RW):eo 0 0 0 0 w w:=⟨rfl,rfl,rfl,rfl,Nat.le_refl _,Nat.le_refl _,Nat.le_refl _,fun m h=>h,fun _ h=>h,id,List.prefix_rfl⟩
theorem eo.trans {f c r q f' c' r' q':Nat} {w w' w'':RW} (h:eo f c r q w w') (h':eo f' c' r' q' w' w''):eo (f + f') (c + c') (r + r') (q + q') w w'' :=
 ⟨h'.kO.trans h.kO,h'.aN.trans h.aN,h'.most.trans h.most,h'.len.trans h.len,by have:=h.aI; have:=h'.aI; omega,by have:=h.aq; have:=h'.aq; omega,by have:=h.aE; have:=h'.aE; omega,
  fun m hm b hb=>by have:=h'.Hp (m + q) (h.Hp m hm) b hb; omega,fun n hn=>h'.sub n (h.sub n hn),fun hb=>h'.pz (h.pz hb),h.pre.trans h'.pre⟩
theorem eo.le {f c r q f' c' r' q':Nat} {w w':RW} (h:eo f c r q w w') (hf:f <= f') (hc:c <= c') (hr:r <= r') (hq:q <= q'):eo f' c' r' q' w w' :=
 ⟨h.kO,h.aN,h.most,h.len,by have:=h.aI; omega,by have:=h.aq; omega,by have:=h.aE; omega,fun m hm b hb=>by have:=h.Hp m hm b hb; omega,h.sub,h.pz,h.pre⟩
theorem eo.fault (w:RW) (k:Int):eo 1 0 0 0 w (w.fault k) :=
 ⟨rfl,rfl,rfl,rfl,by simp [RW.fault],Nat.le_refl _,Nat.le_refl _,fun m h=>h,fun _ h=>h,fun h=>⟨h.c,h.d,h.q⟩,by simp [RW.fault]⟩
theorem eo.aj (w:RW) (c:Bool) (k:Int):eo 1 0 0 0 w (w.aj c k):=by
 unfold RW.aj
 split
 ·exact eo.fault w k
 ·exact (eo.refl w).le (by omega) (by omega) (by omega) (by omega)
theorem wg {w:RW} {i:Nat} {r:RR} (h:∀ r0,w.aE[i]? = some r0 -> r.call = r0.call):bU (w.dU i r) = bU w:=by
 unfold bU RW.dU
 apply List.ext_getElem?
 intro j
 rw [List.getElem?_map,List.getElem?_map,List.getElem?_set]
 by_cases e:i = j
 ·subst e
  cases hr:w.aE[i]? with
  | none =>
    have:¬ i < w.aE.length:=fun hi=>by rw [List.getElem?_eq_getElem hi] at hr; cases hr
    simp [this]
  | some r0 =>
    have hi:i < w.aE.length:=(List.getElem?_eq_some_iff.1 hr).1
    simp [hi,h r0 hr]
 ·simp [e]
theorem eo.dU (w:RW) (i:Nat) (r:RR) (h:∀ r0,w.aE[i]? = some r0 -> r.call = r0.call):eo 0 0 0 0 w (w.dU i r):=by
 have hc:=wg h
 exact ⟨rfl,rfl,rfl,rfl,Nat.le_refl _,Nat.le_refl _,by simp [RW.dU],fun m h=>h,fun n hn=>by rw [hc]; exact hn,fun hb=>⟨fun c h1 h2=>by rw [hc]; exact hb.c c h1 h2,fun b h1 n h2=>by rw [hc]; exact hb.d b h1 n h2,fun b h1 n h2=>by rw [hc]; exact hb.q b h1 n h2⟩,List.prefix_rfl⟩
theorem eo.bh (w:RW) (i:Nat) (c:RC) (h:c.st = 1 -> ER w -> c.call ∈ bU w):eo 0 0 0 0 w (w.bh i c) :=
 ⟨rfl,rfl,rfl,rfl,Nat.le_refl _,by simp [RW.bh],Nat.le_refl _,fun m h=>h,fun n hn=>hn,fun hb=>⟨fun d h1 h2=>by
  rcases List.mem_or_eq_of_mem_set h1 with h1 | rfl
  ·exact hb.c d h1 h2
  ·exact h h2 hb,hb.d,hb.q⟩,List.prefix_rfl⟩
theorem eo.aQ (w:RW) (i:Nat) (x:RB) (q:Nat) (h:∀ b,w.ai[i]? = some b -> x.waits.length <= b.waits.length + q /\ x.ax.length <= b.ax.length + q) (hd:ER w -> ∀ b,w.ai[i]? = some b -> (∀ n,n ∈ x.ax -> n ∈ bU w) /\ (∀ n,n ∈ x.waits -> n ∈ bU w)):eo 0 0 0 q w (w.aQ i x):=by
 have hm:∀ b,b ∈ (w.aQ i x).ai -> b ∈ w.ai \/ (b = x /\ ∃ b0,w.ai[i]? = some b0):=by
  intro b hb
  unfold RW.aQ at hb
  by_cases hi:i < w.ai.length
  ·rcases List.mem_or_eq_of_mem_set hb with hb | rfl
   ·exact .inl hb
   ·exact .inr ⟨rfl,_,List.getElem?_eq_getElem hi⟩
  ·simp only [List.set_eq_of_length_le (Nat.le_of_not_lt hi)] at hb
   exact .inl hb
 refine ⟨rfl,rfl,rfl,by simp [RW.aQ],Nat.le_refl _,Nat.le_refl _,Nat.le_refl _,fun m h1 b hb=>?_,fun n hn=>hn,fun hb=>⟨hb.c,fun b h1 n h2=>?_,fun b h1 n h2=>?_⟩,List.prefix_rfl⟩
 ·rcases hm b hb with hb | ⟨rfl,b0,h0⟩
  ·have:=h1 b hb; omega
  ·have:=h b0 h0
   have:=h1 b0 (List.mem_of_getElem? h0)
   omega
 ·rcases hm b h1 with h1 | ⟨rfl,b0,h0⟩
  ·exact hb.d b h1 n h2
  ·exact (hd hb b0 h0).1 n h2
 ·rcases hm b h1 with h1 | ⟨rfl,b0,h0⟩
  ·exact hb.q b h1 n h2
  ·exact (hd hb b0 h0).2 n h2
theorem eo.Dd (w:RW) (i:Nat) (x:RB) (h:∀ b,w.ai[i]? = some b -> x.waits = b.waits /\ x.ax = b.ax):eo 0 0 0 0 w (w.aQ i x) :=
 eo.aQ w i x 0 (fun b hb=>by rw [(h b hb).1,(h b hb).2]; omega) fun hg b hb=>by rw [(h b hb).1,(h b hb).2]; exact ⟨hg.d b (List.mem_of_getElem? hb),hg.q b (List.mem_of_getElem? hb)⟩
theorem dL {α:Type} {l:List α} {i:Nat} {d b:α} (h:l[i]? = some b):l.getD i d = b:=by rw [List.getD_eq_getElem?_getD,h]; rfl
theorem qp (l:List Int) (n:Int):(aZ l n).length <= l.length:=List.length_filter_le _ _
theorem nj {l:List Int} {n m:Int} (h:m ∈ aZ l n):m ∈ l:=(List.mem_filter.1 h).1
theorem qQ {w:RW} {n b:Int} (h:ju w n b = true):n ∈ bU w:=by
 unfold ju at h
 simp only [Bool.and_eq_true] at h
 obtain ⟨i,hi,_⟩:=pd h.1
 exact (Ad w n).1 ⟨i,hi⟩
theorem eo.up {f c r q:Nat} {w w':RW} (h:eo f c r q w w') (h1:f <= 3:=by omega) (h2:c <= 1:=by omega) (h3:r <= 1:=by omega) (h4:q <= 1:=by omega):eo 3 1 1 1 w w':=h.le h1 h2 h3 h4
theorem lL (w:RW):eo 3 1 1 1 w w:=(eo.refl w).up
theorem Ae (w:RW) (c:Bool) (k:Int):(w.aj c k).ai = w.ai:=by unfold RW.aj; split <;> rfl
theorem rR (w:RW) (c:Bool) (k:Int):(w.aj c k).aE = w.aE:=by unfold RW.aj; split <;> rfl
theorem Hq (w:RW) (x:Ev):eo 3 1 1 1 w (rN w x).1:=by
 unfold rN
 split
 ·dsimp only
  have h1:=eo.aj w ((w.ai.getD x.bk gD).down || decide ((w.ai.getD x.bk gD).gV = 1)) 7
  generalize ja:w.aj ((w.ai.getD x.bk gD).down || decide ((w.ai.getD x.bk gD).gV = 1)) 7 = w1 at *
  have eK:w1.ai = w.ai:=by rw [<- ja]; exact Ae _ _ _
  have ma:w1.aE = w.aE:=by rw [<- ja]; exact rR _ _ _
  have h2:eo 1 0 0 0 w1 (if (w.ai.getD x.bk gD).gV = 2 then (w1.aj (decide ((w.ai.getD x.bk gD).aM ≠ 0) && decide ((w.ai.getD x.bk gD).aM ≠ x.call)) 8).aQ x.bk { w.ai.getD x.bk gD with aM:=x.call } else w1):=by
   split
   ·refine ((eo.aj w1 _ 8).trans (eo.Dd _ _ _ fun b hb=>?_)).le (by omega) (by omega) (by omega) (by omega)
    rw [Ae,eK] at hb
    rw [dL hb]
    exact ⟨rfl,rfl⟩
   ·exact (eo.refl w1).le (by omega) (by omega) (by omega) (by omega)
  have sy:(if (w.ai.getD x.bk gD).gV = 2 then (w1.aj (decide ((w.ai.getD x.bk gD).aM ≠ 0) && decide ((w.ai.getD x.bk gD).aM ≠ x.call)) 8).aQ x.bk { w.ai.getD x.bk gD with aM:=x.call } else w1).aE = w.aE:=by
   split
   ·rw [<- ma]; exact rR _ _ _
   ·exact ma
  generalize (if (w.ai.getD x.bk gD).gV = 2 then (w1.aj (decide ((w.ai.getD x.bk gD).aM ≠ 0) && decide ((w.ai.getD x.bk gD).aM ≠ x.call)) 8).aQ x.bk { w.ai.getD x.bk gD with aM:=x.call } else w1) = w2 at *
  refine ((h1.trans h2).trans ((eo.aj w2 _ 10).trans (eo.dU _ _ _ fun r0 h0=>?_))).up
  rw [rR,sy] at h0
  rw [dL h0]
 ·exact lL w
theorem Hr (w:RW) (x:Ev):eo 3 1 1 1 w (eC w x).1:=by
 unfold eC
 dsimp only
 split
 ·split
  ·rename_i hm
   refine ((eo.aQ w _ _ 1 (fun b hb=>?_) fun hg b hb=>?_).trans (eo.aj _ _ 3)).up
   ·rw [dL hb]; simp
   ·have yA:=List.mem_of_getElem? hb
    rw [dL hb]
    refine ⟨hg.d b yA,fun n hn=>?_⟩
    rcases List.mem_append.1 hn with hn | hn
    ·exact hg.q b yA n hn
    ·rw [List.mem_singleton.1 hn]; exact qQ hm
  ·exact lL w
 ·split
  ·split
   ·refine (eo.aQ w _ _ 0 (fun b hb=>?_) fun hg b hb=>?_).up
    ·rw [dL hb]; have:=qp b.waits x.call; dsimp only; omega
    ·have yA:=List.mem_of_getElem? hb
     rw [dL hb]
     exact ⟨hg.d b yA,fun n hn=>hg.q b yA n (nj hn)⟩
   ·exact lL w
  ·split
   ·split
    ·rename_i hm
     have h1:=eo.aj w (fx w x) 9
     have eK:=Ae w (fx w x) 9
     have ma:=rR w (fx w x) 9
     generalize w.aj (fx w x) 9 = w1 at *
     have e:(w1.aQ x.bk { w.ai.getD x.bk gD with waits:=aZ (w.ai.getD x.bk gD).waits x.call }).aQ x.bk { w.ai.getD x.bk gD with waits:=aZ (w.ai.getD x.bk gD).waits x.call,ax:=(w.ai.getD x.bk gD).ax ++ [x.call] } = w1.aQ x.bk { w.ai.getD x.bk gD with waits:=aZ (w.ai.getD x.bk gD).waits x.call,ax:=(w.ai.getD x.bk gD).ax ++ [x.call] }:=by
      simp [RW.aQ]
     rw [e]
     have jj:bU w1 = bU w:=by unfold bU; rw [ma]
     refine ((h1.trans (eo.aQ w1 _ _ 1 (fun b hb=>?_) fun hg b hb=>?_)).trans (eo.aj _ _ 2)).up
     ·rw [eK] at hb
      rw [dL hb]; have:=qp b.waits x.call; simp; omega
     ·have yA:=List.mem_of_getElem? hb
      have cz:=hb
      rw [eK] at cz
      rw [dL cz]
      refine ⟨fun n hn=>?_,fun n hn=>hg.q b yA n (nj hn)⟩
      rcases List.mem_append.1 hn with hn | hn
      ·exact hg.d b yA n hn
      ·rw [List.mem_singleton.1 hn]
       rcases hm with hm | hm
       ·rw [dL cz] at hm
        exact hg.q b yA _ hm
       ·rw [jj]; exact qQ hm
    ·exact lL w
   ·split
    ·refine (eo.aQ w _ _ 0 (fun b hb=>?_) fun hg b hb=>?_).up
     ·rw [dL hb]; have:=qp b.ax x.call; dsimp only; omega
     ·have yA:=List.mem_of_getElem? hb
      rw [dL hb]
      exact ⟨fun n hn=>hg.d b yA n (nj hn),hg.q b yA⟩
    ·exact lL w
theorem eo.OB (w:RW) (c:RC) (h:c.st = 1 -> ER w -> c.call ∈ bU w):eo 0 1 0 0 w { w with aq:=w.aq ++ [c] } :=
 ⟨rfl,rfl,rfl,rfl,Nat.le_refl _,by simp,Nat.le_refl _,fun m h=>h,fun n hn=>hn,fun hb=>⟨fun d h1 h2=>by
  rcases List.mem_append.1 h1 with h1 | h1
  ·exact hb.c d h1 h2
  ·rw [List.mem_singleton.1 h1] at h2 ⊢; exact h h2 hb,hb.d,hb.q⟩,List.prefix_rfl⟩
theorem Hs (w:RW) (x:Ev) (hx:x.bk < w.ai.length) (hg:ER w):eo 3 1 1 1 w (qk w x).1:=by
 have dH:w.ai[x.bk]? = some w.ai[x.bk]:=List.getElem?_eq_getElem hx
 have I0:=List.getElem_mem hx
 unfold qk
 dsimp only
 rw [dL dH]
 generalize w.ai[x.bk] = B at *
 split
 ·rename_i hm
  split
  ·exact lL w
  ·refine ((eo.aQ w _ { B with ax:=aZ B.ax x.call } 0 (fun b hb=>?_) fun _ b hb=>⟨fun n hn=>hg.d B I0 n (nj hn),fun n hn=>hg.q B I0 n hn⟩).trans (eo.OB _ _ fun h1 _=>?_)).up
   ·rw [dH] at hb; injection hb with hb; subst hb
    have:=qp B.ax x.call; dsimp only; omega
   ·have:x.call ∈ bU w:=hg.d _ I0 _ hm
    split
    ·exact this
    ·rename_i hy; rw [if_neg hy] at h1; cases h1
 ·exact lL w
theorem Eu (w:RW) (x:Ev) (hx:x.bk < w.ai.length) (hg:ER w):eo 3 1 1 1 w (lK w x).1:=by
 have dH:w.ai[x.bk]? = some w.ai[x.bk]:=List.getElem?_eq_getElem hx
 have I0:=List.getElem_mem hx
 unfold lK
 dsimp only
 rw [dL dH]
 generalize w.ai[x.bk] = B at *
 split
 ·rename_i hm
  split
  ·exact (eo.fault w 4).up
  ·rename_i i hi
   split
   ·exact (eo.fault w 4).up
   ·split
    ·exact (eo.fault w 1).up
    ·have h1:=eo.aj w (fx w x) 9
     have eK:=Ae w (fx w x) 9
     have ma:=rR w (fx w x) 9
     generalize w.aj (fx w x) 9 = w1 at *
     obtain ⟨C,hC⟩:∃ C,(decide ((w.aN.getD x.bk Em).xU <= cH (w.now - (w.aq.getD i yF).born)) || (decide ((w.aq.getD i yF).st = 2) && decide ((w.aN.getD x.bk Em).idle <= cH (w.now - (w.aq.getD i yF).since)))) = C:=⟨_,rfl⟩
     rw [hC]
     have h2:=eo.aj w1 C 5
     have cz:=Ae w1 C 5
     have sy:=rR w1 C 5
     generalize w1.aj C 5 = w2 at *
     have jj:bU w2 = bU w:=by unfold bU; rw [sy,ma]
     refine ((h1.trans h2).trans ((eo.aQ w2 _ { B with waits:=aZ B.waits x.call } 0 (fun b hb=>?_) fun _ b hb=>⟨fun n hn=>by rw [jj]; exact hg.d B I0 n hn,fun n hn=>by rw [jj]; exact hg.q B I0 n (nj hn)⟩).trans (eo.bh _ _ _ fun _ _=>?_))).up
     ·rw [cz,eK,dH] at hb; injection hb with hb; subst hb
      have:=qp B.waits x.call; dsimp only; omega
     ·show x.call ∈ bU w2
      rw [jj]
      rcases hm with hm | hm
      ·exact hg.q _ I0 _ hm
      ·exact qQ hm
 ·exact lL w
theorem Ht (w:RW) (x:Ev):eo 3 1 1 1 w (lV w x).1:=by
 unfold lV
 split
 ·exact (eo.fault w 4).up
 ·dsimp only
  split
  ·exact (eo.fault w 4).up
  ·split
   ·split
    ·exact lL w
    ·exact (eo.bh w _ _ fun h1 _=>absurd (show (5:Int) = 1 from h1) (by omega)).up
   ·split
    ·exact (eo.fault w 1).up
    ·split
     ·exact lL w
     ·exact (eo.bh w _ _ fun h1 _=>absurd (show (2:Int) = 1 from h1) (by omega)).up
theorem B9 (w:RW) (x:Ev):eo 3 1 1 1 w (jF w x).1:=by
 unfold jF
 split
 ·exact lL w
 ·dsimp only
  split
  ·exact lL w
  ·split
   ·exact (eo.Dd w _ _ fun b hb=>by rw [dL hb]; exact ⟨rfl,rfl⟩).up
   ·exact lL w
theorem Kj (w:RW) (x:Ev) (hg:ER w):eo 3 1 1 1 w (sf w x):=by
 unfold sf
 split
 ·exact (eo.fault w 4).up
 ·rename_i i hi
  obtain ⟨c,hc,h1,h2⟩:=Hc hi
  have yX:=List.mem_of_getElem? hc
  dsimp only
  rw [dL hc]
  split
  ·have hf:=eo.aj w (decide (x.kf ≠ x.call)) 6
   have ma:=rR w (decide (x.kf ≠ x.call)) 6
   generalize w.aj (decide (x.kf ≠ x.call)) 6 = w1 at *
   refine (hf.trans (eo.bh _ _ _ fun h1 _=>?_)).up
   show c.call ∈ bU w1
   have:bU w1 = bU w:=by unfold bU; rw [ma]
   rw [this]
   exact hg.c c yX h1
  ·split
   ·exact lL w
   ·rename_i j hj
    obtain ⟨C,hC⟩:∃ C,(!(w.aE.getD j zU).idem && decide (0 < (w.aE.getD j zU).cj) && decide ((w.aE.getD j zU).cj < (w.aE.getD j zU).aO)) = C:=⟨_,rfl⟩
    rw [hC]
    have hf:=eo.aj w C 10
    have ma:=rR w C 10
    generalize w.aj C 10 = w1 at *
    have hs:∀ r0,w1.aE[j]? = some r0 -> ({ w.aE.getD j zU with cj:=(w.aE.getD j zU).aO }:RR).call = r0.call:=fun r0 h0=>by
     rw [ma] at h0
     rw [dL h0]
    refine ((hf.trans (eo.dU w1 j _ hs)).trans (eo.bh _ _ _ fun h1 _=>?_)).up
    rw [wg hs]
    show c.call ∈ bU w1
    have:bU w1 = bU w:=by unfold bU; rw [ma]
    rw [this]
    exact hg.c c yX h1
theorem BA (w:RW) (x:Ev):eo 3 1 1 1 w (fX w x).1:=by
 unfold fX
 split
 ·split
  ·exact (eo.dU w _ _ fun r0 h0=>by rw [dL h0]).up
  ·exact lL w
 ·split
  ·split
   ·exact lL w
   ·exact ⟨rfl,rfl,rfl,rfl,Nat.le_add_right _ _,Nat.le_add_right _ _,Nat.le_add_right _ _,fun m h b hb=>by have:=h b hb; omega,fun _ h=>h,fun h=>⟨h.c,h.d,h.q⟩,List.prefix_rfl⟩
  ·split
   ·exact (eo.aj w _ 11).up
   ·exact lL w
theorem Af (w:RW) (x:Ev) (hx:2 <= x.kind -> x.kind <= 16 -> x.bk < w.ai.length) (hg:ER w):eo 3 1 1 1 w (j4 w x).1:=by
 unfold j4
 split
 ·split
  ·exact lL w
  ·refine ⟨rfl,rfl,rfl,rfl,Nat.le_add_right _ _,Nat.le_add_right _ _,by simp,fun m h b hb=>by have:=h b hb; omega,fun n hn=>?_,fun h=>⟨fun c h1 h2=>?_,fun b h1 n h2=>?_,fun b h1 n h2=>?_⟩,List.prefix_rfl⟩
   ·exact by simp only [bU,List.map_append]; exact List.mem_append_left _ hn
   ·have:=h.c c h1 h2; simp only [bU,List.map_append]; exact List.mem_append_left _ this
   ·have:=h.d b h1 n h2; simp only [bU,List.map_append]; exact List.mem_append_left _ this
   ·have:=h.q b h1 n h2; simp only [bU,List.map_append]; exact List.mem_append_left _ this
 split
 ·exact Hq w x
 split
 ·exact Hr w x
 split
 ·exact Hs w x (hx (by omega) (by omega)) hg
 split
 ·exact Eu w x (hx (by omega) (by omega)) hg
 split
 ·exact Kj w x hg
 split
 ·split
  ·exact lL w
  ·rename_i i hi
   exact (eo.bh w _ _ fun h1 _=>by
    cases hy:x.yes
    ·rw [hy] at h1; exact absurd (show (4:Int) = 1 from h1) (by omega)
    ·rw [hy] at h1; exact absurd (show (3:Int) = 1 from h1) (by omega)).up
 split
 ·exact Ht w x
 split
 ·exact (eo.Dd w _ _ fun b hb=>by rw [dL hb]; exact ⟨rfl,rfl⟩).up
 split
 ·exact (eo.Dd w _ _ fun b hb=>by rw [dL hb]; exact ⟨rfl,rfl⟩).up
 split
 ·exact B9 w x
 ·exact BA w x
end Go.Proofs
