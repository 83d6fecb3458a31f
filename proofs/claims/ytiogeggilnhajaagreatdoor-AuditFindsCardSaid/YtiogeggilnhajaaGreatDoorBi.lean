/- Texts of the proof, put together: VM, UD, UE, UF, UG, UH, UI, UJ, UK, UL, UM, VN, VO, VP, VQ, VR, UN, UO. -/
import Derived.Test.YtiogeggilnhajaaGreatDoorBh
import Derived.Test.YtiogeggilnhajaaGreatDoorBe
set_option maxHeartbeats 8000000
set_option linter.unusedSimpArgs false
set_option linter.unusedVariables false
set_option maxRecDepth 100000
namespace Go.Pl
open Go
theorem aw.pre {P : Program} {f : FuncId} {args : List V} {bx bx' : aa} {Kc : V -> aa -> Prop} (hs : cj bx bx') (h : aw P f args bx' Kc) : aw P f args bx Kc:=by
 refine ⟨h.1,fun β M w vs cY l9 ju bN=>?_⟩
 refine (h.2 β M w vs (cY.sub hs) (l9.imp fun _ _ hh=>hs.rep hh) ju (fun i c hc=>hs.rep (bN i c hc))).mono ?_
 rintro e w' ⟨v,r,bx2,β2,rfl,hk,adb,ht,Wr⟩
 exact ⟨v,r,bx2,β2,rfl,hk,adb,hs.tr.trans ht,Wr⟩
end Go.Pl
namespace Go.Proofs
open Go Go.Pl Tryz
def mK (r : Int × IR) : Bool:=!r.2.ended
def qX (b : IB) : Bool:=decide (0 < b.cp)
def zz (s : IW) : Bool:=decide (0 < s.busy.length) || s.ah.any qX || s.aD.any mK
def pG (s : IW) : IW × Bool:=if s.stop then (s.ai (zz s) 11,true) else (s,false)
theorem DS {α : Type} (l : List α) (p : α -> Bool) {j : Nat} (hj : j < l.length) : (l.take (j + 1)).any p = ((l.take j).any p || p l[j]):=by
 rw [List.take_succ_eq_append_getElem hj,List.any_append]
 simp
theorem DT (l : List (Int × IR)) (is : List Nat) (h : is.Perm (List.range l.length)) : is.any (fun i=>mK (l.getD i (0,nO))) = l.any mK:=by
 rw [Bool.eq_iff_iff,List.any_eq_true,List.any_eq_true]
 constructor
 ·rintro ⟨i,hi,ho⟩
  have n7 : i < l.length:=List.mem_range.1 (h.mem_iff.1 hi)
  rw [List.getD_eq_getElem?_getD,List.getElem?_eq_getElem n7] at ho
  exact ⟨_,List.getElem_mem n7,ho⟩
 ·rintro ⟨r,hr,ho⟩
  obtain ⟨i,hi,rfl⟩:=List.getElem_of_mem hr
  refine ⟨i,h.mem_iff.2 (List.mem_range.2 hi),?_⟩
  rw [List.getD_eq_getElem?_getD,List.getElem?_eq_getElem hi]
  exact ho
theorem Ot {aC bx : aa} {ad : cQ} {s : IW} (h : WI aC ad s bx) {p : Nat} (hp : ad .w = some p) (x : Ev) (bi : Int) (hl : s.aG.length <= 90000) (hbl : s.ah.length <= 1000) :
 aw prog 87 [.ptr p 13 0 0,dL x bi] bx (de aC ad (pG s)):=by
 refine V1 fun hf=>?_
 obtain ⟨pb,pc,pr,pm,pw',hn⟩:=h.names hp
 have aq:=h.row hn
 unfold il at aq
 have cZ:=h.mE hn
 have uD:=h.Wc hn
 have tZ:=h.Q9 hn
 obtain ⟨z,hz⟩ : ∃ z,pG s = z:=⟨_,rfl⟩
 rw [hz]
 unfold pG at hz
 cases iq : s.stop
 ·rw [iq] at aq hz
  simp [go_sem,C87,hf,aq,dL,iI]
  exact aj (by simp [go_sem]) (.of hz.symm ⟨by simp [go_sem],ad,bQ.refl _,h⟩)
 rw [iq] at aq hz
 simp only [if_true] at hz
 have WT : (fU s.busy nN).length = s.busy.length:=by simp [fU]
 simp [go_sem,C87,hf,aq,dL,iI,tZ,WT]
 obtain ⟨B0,Q5⟩ : ∃ B,decide (0 < s.busy.length) = B:=⟨_,rfl⟩
 rw [Q5]
 refine ct s.ah.length (fun j=>⟨57,bR [(0,.ptr p 13 0 0),(5,.bool (B0 || (s.ah.take j).any qX)),(24,.own pb 6 0 s.ah.length),(25,.int .i64 s.ah.length),(26,.int .i64 j)],bx⟩) (al (by simp [go_sem])) (fun j hj N hN=>?_) (fun N=>?_)
 ·have hw:=bt (k:=j) (by omega)
  rw [DS _ _ hj,<- Bool.or_assoc] at hN
  cases ha : (B0 || (s.ah.take j).any qX)
  ·rw [ha] at hN
   simp only [Bool.false_or,qX] at hN
   simp [go_sem,Cj,hj,hf,hw,cZ,ib,kK,iI]
   intro b hb
   rw [tm hb]
   exact hN _ (al (by simp [go_sem]))
  ·rw [ha] at hN
   simp only [Bool.true_or] at hN
   simp [go_sem,Cj,hj,hf,hw,cZ,ib,kK,iI]
   intro b hb
   rw [tm hb]
   exact hN _ (al (by simp [go_sem]))
 rw [List.take_length]
 simp [go_sem,Cj,hf,aq,uD]
 obtain ⟨B1,hB1⟩ : ∃ B,(B0 || s.ah.any qX) = B:=⟨_,rfl⟩
 rw [hB1]
 intro bs c b' iJ rO dt aQ
 obtain ⟨E,hE⟩ : ∃ E,(jR (s.aD.map (fun x=>x.1)) fun i=>V.ptr (nD ad (.rq i)) 5 0 0) = E:=⟨_,rfl⟩
 have Ou : bx pr = some (.map E):=by rw [uD,<- hE]
 rw [hE] at iJ aQ ⊢
 have hEl : E.length = s.aD.length:=by rw [<- hE,Gm,List.length_map]
 rw [hEl] at iJ
 have nb1 : b' ≠ pr:=(eg aQ).1
 have eV : bx b' = none:=(eg aQ).2
 have back : ∀ sn,cj (aA (aA bx pr (some (bI.kg E bs c))) b' (some (bI.iter pr c c sn))) bx:=fun sn=>IJ (b:=pr) (by rw [ae _ _ (Ne.symm nb1),af]) Ou fun d hd=>by
  by_cases ed : d = b'
  ·subst ed; exact .inl eV
  ·exact .inr (by rw [ae _ _ ed,ae _ _ hd])
 refine rS (ι:=List Nat × List Nat) (fun q=>Seen s.aD.length bs q.1 q.2) (fun q=>⟨57,bR [(0,.ptr p 13 0 0),(5,.bool (B1 || q.1.any (fun i=>mK (s.aD.getD i (0,nO))))),(41,.ptr b' 1 0 0)],aA (aA bx pr (some (.kg E bs c))) b' (some (.iter pr c c q.2))⟩) (fun q=>s.aD.length - q.1.length) ([],[]) (Seen.nil _ _) (al (by simp [go_sem])) ?_
 rintro ⟨is,seen⟩ hS
 dsimp only at hS ⊢
 have yf : aA (aA bx pr (some (bI.kg E bs c))) b' (some (bI.iter pr c c seen)) b' = some (bI.iter pr c c seen):=af _ _ _
 have lM : aA (aA bx pr (some (bI.kg E bs c))) b' (some (bI.iter pr c c seen)) pr = some (bI.kg E bs c):=by rw [ae _ _ (Ne.symm nb1),af]
 obtain ⟨B2,Cy⟩ : ∃ B,(B1 || is.any (fun i=>mK (s.aD.getD i (0,nO)))) = B:=⟨_,rfl⟩
 rw [Cy]
 simp [go_sem,KW,yf,lM]
 refine ⟨dt,fun ig=>?_,?_⟩
 ·have Jz:=hS.all iJ rO ig
  have hD : B2 = zz s:=by rw [<- Cy,DT _ _ Jz,<- hB1,<- Q5]; rfl
  cases hlw : zz s
  ·rw [hlw] at hD hz
   subst hD
   simp [go_sem]
   exact IK (by simp [go_sem]) (back seen) (.of hz.symm ⟨by simp [go_sem],ad,bQ.refl _,h⟩)
  ·rw [hlw] at hD hz
   subst hD
   simp [go_sem]
   refine an (aw.pre (back seen) (dq h hp 11 (by omega))) ?_
   rintro r bM ⟨rfl,ad1,dV,h1⟩
   have bg:=h1.fin
   simp [go_sem,bg]
   exact aj (by simp [go_sem]) (.of hz.symm ⟨by simp [go_sem],ad1,dV,h1⟩)
 ·intro i q a v hq Ld L6
  obtain ⟨g1,g2,g3⟩:=hS.next iJ hq L6
  obtain ⟨br,Af,hrr⟩:=h.La g2
  have hEi : E[i]? = some (iI s.aD[i].1,.ptr br 5 0 0):=by
   rw [<- hE]
   unfold jR
   rw [List.getElem?_mapIdx,List.getElem?_map,List.getElem?_eq_getElem g2]
   simp [dE Af]
  rw [hEi] at Ld
  injection Ld with Ld
  injection Ld with hE3 hE4
  subst hE3 hE4
  rw [ae _ _ (Ne.symm nb1),af]
  have ade : br ≠ pr:=by rintro rfl; rw [hrr] at Ou; cases Ou
  have adf : br ≠ b':=by rintro rfl; rw [hrr] at eV; cases eV
  have adg : aA (aA bx pr (some (bI.kg E bs c))) b' (some (bI.iter pr c c (seen ++ [q]))) br = some (.row uB 5 [sd s.aD[i].2]):=by rw [ae _ _ adf,ae _ _ ade,hrr]
  refine ⟨rfl,i,iI s.aD[i].1,.ptr br 5 0 0,seen,q,⟨rfl,rfl⟩,hq,hEi,?_⟩
  have sN : (B1 || (is ++ [i]).any (fun i=>mK (s.aD[i]?.getD (0,nO)))) = (B2 || !s.aD[i].2.ended):=by
   rw [List.any_append,<- Bool.or_assoc,<- Cy]
   simp [mK,g2]
  have hlen:=g3.len
  rw [List.length_append,List.length_singleton] at hlen
  cases B2
  ·cases he : s.aD[i].2.ended
   all_goals (
    rw [he] at sN
    simp [go_sem,adg,sd,iI,he]
    exact ⟨(is ++ [i],seen ++ [q]),g3,al (by simp only [sN]; simp [go_sem]),by simp; omega⟩)
  ·simp [go_sem]
   exact ⟨(is ++ [i],seen ++ [q]),g3,al (by simp only [sN]; simp [go_sem]),by simp; omega⟩
end Go.Proofs
namespace Go.Proofs
open Go Go.Pl Tryz
def RW.fault (w : RW) (k : Int) : RW:={ w with aG:=w.aG ++ [(k,w.ev)] }
def RW.ai (w : RW) (c : Bool) (k : Int) : RW:=if c then w.fault k else w
def RW.aO (w : RW) (i : Nat) (b : RB) : RW:={ w with ah:=w.ah.set i b }
def RW.dO (w : RW) (i : Nat) (r : RR) : RW:={ w with aD:=w.aD.set i r }
def RW.ba (w : RW) (i : Nat) (c : RC) : RW:={ w with ak:=w.ak.set i c }
def gx : RB:=⟨false,0,0,[],[]⟩
def z1 : RR:=⟨0,false,0,0,0,false⟩
def yn : RC:=⟨0,0,0,0,0,0,0,0,0,0⟩
def fo (aC : aa) (p : Nat) (z : RW × Bool) (r : V) (bx' : aa) : Prop:=r = .bool z.2 /\ ∃ n,n.p = p /\ WR aC n z.1 bx'
def qY (w : RW) (x : Ev) : RW × Bool :=
 if dr w x.call then
  let i:=(dp w x.call).getD 0
  let r:=w.aD.getD i z1
  let b:=w.ah.getD x.bk gx
  let w1:=w.ai (b.down || decide (b.gL = 1)) 7
  let w2:=if b.gL = 2 then (w1.ai (decide (b.aK ≠ 0) && decide (b.aK ≠ x.call)) 8).aO x.bk { b with aK:=x.call } else w1
  let w3:=w2.ai (decide (w.most < r.aM)) 10
  (w3.dO i { r with aM:=ck (r.aM + 1),at_:=x.bk },true)
 else (w,false)
theorem oI {w : RW} {call : Int} (h : dr w call = true) : ∃ i,dp w call = some i /\ i < w.aD.length:=by
 unfold dr at h
 cases hf : dp w call with
 | none=>rw [hf] at h; cases h
 | some i=>exact ⟨i,rfl,nh hf⟩
abbrev lx (x : Ev) : V:=.ep (aX x) 0
structure afj (n n' : RN) : Prop where
 p : n'.p = n.p
 bb : n'.bb = n.bb
 cv : n'.cv = n.cv
 rv : n'.rv = n.rv
theorem WR.Cz {aC bx : aa} {n : RN} {w : RW} (h : WR aC n w bx) {b : Nat} (hv : n.rv = .own b 6 0 w.aD.length) : bx b = some (.row KY 6 (w.aD.map mB)):=by
 rcases h.aD with ⟨_,h1⟩ | ⟨b',h1,h2⟩
 ·rw [hv] at h1; cases h1
 ·rw [hv] at h1; injection h1 with h1; subst h1; exact h2
theorem WR.C0 {aC bx : aa} {n : RN} {w : RW} (h : WR aC n w bx) {b : Nat} (hv : n.cv = .own b 10 0 w.ak.length) : bx b = some (.row Ct 10 (w.ak.map iX)):=by
 rcases h.ak with ⟨_,h1⟩ | ⟨b',h1,h2⟩
 ·rw [hv] at h1; cases h1
 ·rw [hv] at h1; injection h1 with h1; subst h1; exact h2
theorem C1 {aC bx : aa} {n : RN} {w : RW} (h : WR aC n w bx) (x : Ev) {i : Nat} (hi : i < w.aD.length) {b : Nat} (hv : n.rv = .own b 6 0 w.aD.length) (s : St) (hs : je s ⟨87,bR [(3,lx x),(5,.ptr b 6 i 0)],bx⟩) :
 pw prog Cm (fN prog [.tmp 4] (fo aC n.p (w.dO i { w.aD[i] with aM:=ck (w.aD[i].aM + 1),at_:=x.bk },true))) s:=by
 have hf:=h.fin
 have hb:=h.Cz hv
 refine jq hs ?_
 simp [go_sem,hf,hb,hi,aX,mB,iI]
 refine ⟨by simp [jh,lj,mi,jE],?_⟩
 exact aj (by simp [go_sem]) ⟨by simp [go_sem],n,rfl,h.Ba hv hb i { w.aD[i] with aM:=ck (w.aD[i].aM + 1),at_:=x.bk }⟩
theorem si {aC bx : aa} {n : RN} {w : RW} (h : WR aC n w bx) (x : Ev) (hl : w.aG.length <= 60000) {i : Nat} (hi : i < w.aD.length) {b : Nat} (hv : n.rv = .own b 6 0 w.aD.length) (s : St) (hs : je s ⟨87,bR [(0,.ptr n.p 10 0 0),(3,lx x),(5,.ptr b 6 i 0)],bx⟩) :
 pw prog Cn (fN prog [.tmp 4] (fo aC n.p ((w.ai (decide (w.most < w.aD[i].aM)) 10).dO i { w.aD[i] with aM:=ck (w.aD[i].aM + 1),at_:=x.bk },true))) s:=by
 have hf:=h.fin
 have aq:=h.row
 unfold gu at aq
 have hb:=h.Cz hv
 refine jq hs ?_
 by_cases c1 : w.most < w.aD[i].aM
 ·simp [go_sem,hf,hb,hi,aX,mB,iI,aq,c1]
  refine an (cH h 10 (by omega)) ?_
  rintro r bM ⟨rfl,v',h1⟩
  have bg:=h1.fin
  simp [go_sem,bg]
  exact C1 h1 x (i:=i) hi (b:=b) hv _ (al (by simp [go_sem]))
 ·simp [go_sem,hf,hb,hi,aX,mB,iI,aq,c1]
  exact C1 h x (i:=i) hi (b:=b) hv _ (al (by simp [go_sem]))
theorem C2 {aC bx : aa} {n : RN} {w : RW} (h : WR aC n w bx) (x : Ev) (hl : w.aG.length <= 59000) (hx : x.bk < w.ah.length) {i : Nat} (hi : i < w.aD.length) {b : Nat} (hv : n.rv = .own b 6 0 w.aD.length) (s : St) (hs : je s ⟨87,bR [(0,.ptr n.p 10 0 0),(3,lx x),(5,.ptr b 6 i 0),(6,.ptr n.bb 5 x.bk 0)],bx⟩) :
 pw prog rZ (fN prog [.tmp 4] (fo aC n.p (((if w.ah[x.bk].gL = 2 then (w.ai (decide (w.ah[x.bk].aK ≠ 0) && decide (w.ah[x.bk].aK ≠ x.call)) 8).aO x.bk { w.ah[x.bk] with aK:=x.call } else w).ai (decide (w.most < w.aD[i].aM)) 10).dO i { w.aD[i] with aM:=ck (w.aD[i].aM + 1),at_:=x.bk },true))) s:=by
 have hf:=h.fin
 have aq:=h.row
 unfold gu at aq
 have hb:=h.Cz hv
 have cZ:=h.ah
 have gW : ∀ b,w.ah[x.bk]? = some b -> w.ah[x.bk].au = b.au /\ w.ah[x.bk].waits = b.waits:=fun b hb=>by
  rw [List.getElem?_eq_getElem hx] at hb
  injection hb with hb
  rw [hb]
  exact ⟨rfl,rfl⟩
 refine jq hs ?_
 by_cases c1 : w.ah[x.bk].gL = 2
 ·by_cases c2 : w.ah[x.bk].aK = 0
  ·simp [go_sem,hf,cZ,hx,aX,eI,iI,aq,c1,c2]
   exact si (h.oD x.bk ⟨w.ah[x.bk].down,2,x.call,w.ah[x.bk].au,w.ah[x.bk].waits⟩ gW) x (by simpa using by omega) (i:=i) hi (b:=b) hv _ (al (by simp [go_sem]))
  ·by_cases c3 : w.ah[x.bk].aK = x.call
   ·simp [go_sem,hf,cZ,hx,aX,eI,iI,aq,c1,c2,c3]
    exact si (h.oD x.bk ⟨w.ah[x.bk].down,2,x.call,w.ah[x.bk].au,w.ah[x.bk].waits⟩ gW) x (by simpa using by omega) (i:=i) hi (b:=b) hv _ (al (by simp [go_sem]))
   ·simp [go_sem,hf,cZ,hx,aX,eI,iI,aq,c1,c2,c3]
    refine an (cH h 8 (by omega)) ?_
    rintro r bM ⟨rfl,v',h1⟩
    have bg:=h1.fin
    have Bc:=h1.ah
    simp [go_sem,bg,Bc,hx,aX,eI,iI,c1]
    exact si (h1.oD x.bk ⟨w.ah[x.bk].down,2,x.call,w.ah[x.bk].au,w.ah[x.bk].waits⟩ gW) x (by simpa using by omega) (i:=i) hi (b:=b) hv _ (al (by simp [go_sem]))
 ·simp [go_sem,hf,cZ,hx,aX,eI,iI,aq,c1]
  exact si h x (by omega) (i:=i) hi (b:=b) hv _ (al (by simp [go_sem]))
theorem Ov {aC bx : aa} {n : RN} {w : RW} (h : WR aC n w bx) (x : Ev) (hx : x.bk < w.ah.length) (hl : w.aG.length <= 50000) :
 aw prog 126 [.ptr n.p 10 0 0,aX x] bx (fo aC n.p (qY w x)):=by
 refine Nz fun hf=>?_
 have cR:=xx h x.call
 have cF:=oC h x.call
 have aq:=h.row
 unfold gu at aq
 have cZ:=h.ah
 unfold qY
 cases hre : dr w x.call
 ·rw [hre] at cR
  simp [go_sem,Ny,hf,aX,iI]
  refine ag cR ?_
  simp [go_sem,hf]
  exact aj (by simp [go_sem]) ⟨by simp [go_sem],n,rfl,h⟩
 obtain ⟨i,hi,n7⟩:=oI hre
 rw [hre] at cR
 rw [hi] at cF
 obtain ⟨b,hv,hb⟩:=h.aD.at (by simpa using by omega)
 simp at hv
 unfold gh Ac at cF
 rw [hv] at cF
 simp at cF
 have e1 : w.aD.getD i z1 = w.aD[i]:=by simp [n7]
 have e2 : w.ah.getD x.bk gx = w.ah[x.bk]:=by simp [hx]
 rw [hi]
 simp only [Option.getD_some,e1,e2,if_true]
 obtain ⟨w1,jd⟩ : ∃ w1,w.ai (w.ah[x.bk].down || decide (w.ah[x.bk].gL = 1)) 7 = w1:=⟨_,rfl⟩
 rw [jd]
 generalize hz : ((RW.dO (RW.ai (if w.ah[x.bk].gL = 2 then (w1.ai (decide (w.ah[x.bk].aK ≠ 0) && decide (w.ah[x.bk].aK ≠ x.call)) 8).aO x.bk { w.ah[x.bk] with aK:=x.call } else w1) (decide (w.most < w.aD[i].aM)) 10) i { w.aD[i] with aM:=ck (w.aD[i].aM + 1),at_:=x.bk },true) : RW × Bool) = z
 simp [go_sem,Ny,hf,aX,iI]
 refine ag cR ?_
 simp [go_sem,hf]
 refine ag cF ?_
 have go (hd : (w.ah[x.bk].down || decide (w.ah[x.bk].gL = 1)) = true) {v' : V} {bM : aa} (h1 : WR aC { n with fv:=v' } { w with aG:=w.aG ++ [(7,w.ev)] } bM) (s : St) (hs : je s ⟨87,bR [(0,.ptr n.p 10 0 0),(3,lx x),(5,.ptr b 6 i 0),(6,.ptr n.bb 5 x.bk 0)],bM⟩) :
  pw prog rZ (fN prog [.tmp 4] (fo aC n.p z)) s:=by
  rw [hd] at jd
  subst jd
  subst hz
  exact C2 h1 x (by simpa using by omega) hx n7 hv _ hs
 have go0 (hd : (w.ah[x.bk].down || decide (w.ah[x.bk].gL = 1)) = false) (s : St) (hs : je s ⟨87,bR [(0,.ptr n.p 10 0 0),(3,lx x),(5,.ptr b 6 i 0),(6,.ptr n.bb 5 x.bk 0)],bx⟩) :
  pw prog rZ (fN prog [.tmp 4] (fo aC n.p z)) s:=by
  rw [hd] at jd
  subst jd
  subst hz
  exact C2 h x (by omega) hx n7 hv _ hs
 by_cases c1 : w.ah[x.bk].down = true
 ·simp [go_sem,hf,aq,cZ,hx,eI,iI,c1]
  refine an (cH h 7 (by omega)) ?_
  rintro r bM ⟨rfl,v',h1⟩
  have bg:=h1.fin
  simp [go_sem,bg]
  exact go (by simp [c1]) h1 _ (al (by simp [go_sem,lx,aX,iI]))
 ·by_cases c2 : w.ah[x.bk].gL = 1
  ·simp [go_sem,hf,aq,cZ,hx,eI,iI,c1,c2]
   refine an (cH h 7 (by omega)) ?_
   rintro r bM ⟨rfl,v',h1⟩
   have bg:=h1.fin
   simp [go_sem,bg]
   exact go (by simp [c2]) h1 _ (al (by simp [go_sem,lx,aX,iI]))
  ·simp [go_sem,hf,aq,cZ,hx,eI,iI,c1,c2]
   exact go0 (by simp [c1,c2]) _ (al (by simp [go_sem,lx,aX,iI]))
theorem fo.of {aC bx' : aa} {p : Nat} {z z' : RW × Bool} {r : V} (hz : z = z') (h : fo aC p z' r bx') : fo aC p z r bx':=hz ▸ h
def jz (w : RW) (x : Ev) : RW × Bool :=
 match dp w x.call with
 | none=>(w,false)
 | some i =>
   let r:=w.aD.getD i z1
   let b:=w.ah.getD x.bk gx
   if r.aM = 0 \/ r.at_ ≠ x.bk then (w,false)
   else if b.aK = x.call then (w.aO x.bk { b with aK:=0,gL:=if x.yes then 0 else 1 },true)
   else (w,true)
theorem Gz {aC bx : aa} {n : RN} {w : RW} (h : WR aC n w bx) (x : Ev) (hx : x.bk < w.ah.length) :
 aw prog 133 [.ptr n.p 10 0 0,aX x] bx (fo aC n.p (jz w x)):=by
 refine N9 fun hf=>?_
 have cF:=oC h x.call
 have aq:=h.row
 unfold gu at aq
 have cZ:=h.ah
 have e2 : w.ah.getD x.bk gx = w.ah[x.bk]:=by simp [hx]
 have gW (z : RB) (h1 : z.au = w.ah[x.bk].au) (h2 : z.waits = w.ah[x.bk].waits) : ∀ b,w.ah[x.bk]? = some b -> z.au = b.au /\ z.waits = b.waits:=fun b hb=>by
  rw [List.getElem?_eq_getElem hx] at hb
  injection hb with hb
  rw [<- hb]
  exact ⟨h1,h2⟩
 obtain ⟨z,hz⟩ : ∃ z,jz w x = z:=⟨_,rfl⟩
 rw [hz]
 unfold jz at hz
 rw [e2] at hz
 simp [go_sem,VT,hf,aX,iI]
 cases iH : dp w x.call with
 | none =>
   rw [iH] at cF hz
   dsimp only at hz
   unfold gh at cF
   refine ag cF ?_
   simp [go_sem,hf,aq,cZ,hx]
   exact aj (by simp [go_sem]) (.of hz.symm ⟨by simp [go_sem],n,rfl,h⟩)
 | some i =>
   have hi:=nh iH
   have e1 : w.aD.getD i z1 = w.aD[i]:=by simp [hi]
   rw [iH] at cF hz
   dsimp only at hz
   rw [e1] at hz
   obtain ⟨b,hv,hb⟩:=h.aD.at (by simpa using by omega)
   simp at hv
   unfold gh Ac at cF
   rw [hv] at cF
   simp at cF
   refine ag cF ?_
   by_cases c1 : w.aD[i].aM = 0
   ·simp [go_sem,hf,aq,cZ,hx,hb,mB,iI,hi,c1]
    exact aj (by simp [go_sem]) (.of (z':=(w,false)) (by rw [<- hz]; simp [c1]) ⟨by simp [go_sem],n,rfl,h⟩)
   by_cases c2 : w.aD[i].at_ = x.bk
   ·by_cases c3 : w.ah[x.bk].aK = x.call
    ·cases c4 : x.yes
     ·simp [go_sem,hf,aq,cZ,hx,hb,mB,iI,hi,c1,c2,c3,c4,eI]
      exact aj (by simp [go_sem]) (.of (z':=(w.aO x.bk ⟨w.ah[x.bk].down,1,0,w.ah[x.bk].au,w.ah[x.bk].waits⟩,true)) (by rw [<- hz]; simp [c1,c2,c3,c4]) ⟨by simp [go_sem],n,rfl,h.oD x.bk ⟨w.ah[x.bk].down,1,0,w.ah[x.bk].au,w.ah[x.bk].waits⟩ (gW _ rfl rfl)⟩)
     ·simp [go_sem,hf,aq,cZ,hx,hb,mB,iI,hi,c1,c2,c3,c4,eI]
      exact aj (by simp [go_sem]) (.of (z':=(w.aO x.bk ⟨w.ah[x.bk].down,0,0,w.ah[x.bk].au,w.ah[x.bk].waits⟩,true)) (by rw [<- hz]; simp [c1,c2,c3,c4]) ⟨by simp [go_sem],n,rfl,h.oD x.bk ⟨w.ah[x.bk].down,0,0,w.ah[x.bk].au,w.ah[x.bk].waits⟩ (gW _ rfl rfl)⟩)
    ·simp [go_sem,hf,aq,cZ,hx,hb,mB,iI,hi,c1,c2,c3,eI]
     exact aj (by simp [go_sem]) (.of (z':=(w,true)) (by rw [<- hz]; simp [c1,c2,c3]) ⟨by simp [go_sem],n,rfl,h⟩)
   ·simp [go_sem,hf,aq,cZ,hx,hb,mB,iI,hi,c1,c2]
    exact aj (by simp [go_sem]) (.of (z':=(w,false)) (by rw [<- hz]; simp [c1,c2]) ⟨by simp [go_sem],n,rfl,h⟩)
def lE (w : RW) (x : Ev) : RW × Bool :=
 match eQ w x.conn x.bk with
 | none=>(w.fault 4,true)
 | some i =>
   let c:=w.ak.getD i yn
   if x.kind = 12 /\ c.st = 4 then (w.fault 4,true)
   else if x.kind = 13 then (if c.st = 1 then (w,false) else (w.ba i { c with st:=5,fin:=w.now },true))
   else if c.st = 1 then (w.fault 1,true)
   else if c.st = 2 then (w,false)
   else (w.ba i { c with st:=2,since:=w.now },true)
theorem G0 {aC bx : aa} {n : RN} {w : RW} (h : WR aC n w bx) (x : Ev) (hl : w.aG.length <= 50000) :
 aw prog 132 [.ptr n.p 10 0 0,aX x] bx (fo aC n.p (lE w x)):=by
 refine N8 fun hf=>?_
 have cT:=xw h x.conn x.bk
 have aq:=h.row
 unfold gu at aq
 have c4:=cH h 4 (by omega)
 have c1:=cH h 1 (by omega)
 obtain ⟨z,hz⟩ : ∃ z,lE w x = z:=⟨_,rfl⟩
 rw [hz]
 unfold lE at hz
 simp [go_sem,VS,hf,aX,iI]
 cases iH : eQ w x.conn x.bk with
 | none =>
   rw [iH] at cT hz
   dsimp only at hz
   unfold gh at cT
   refine ag cT ?_
   simp [go_sem,hf]
   refine an c4 ?_
   rintro r bM ⟨rfl,v',h1⟩
   have bg:=h1.fin
   simp [go_sem,bg]
   exact aj (by simp [go_sem]) (.of hz.symm ⟨by simp [go_sem],{ n with fv:=v' },rfl,h1⟩)
 | some i =>
   have hi:=pA iH
   have e1 : w.ak.getD i yn = w.ak[i]:=by simp [hi]
   rw [iH] at cT hz
   dsimp only at hz
   rw [e1] at hz
   obtain ⟨b,hv,hb⟩:=h.ak.at (by simpa using by omega)
   simp at hv
   unfold gh Ac at cT
   rw [hv] at cT
   simp at cT
   refine ag cT ?_
   by_cases k1 : x.kind = 13
   ·by_cases s1 : w.ak[i].st = 1
    ·simp [go_sem,hf,aq,hb,iX,iI,hi,k1,s1]
     exact aj (by simp [go_sem]) (.of (z':=(w,false)) (by rw [<- hz]; simp [k1,s1]) ⟨by simp [go_sem],n,rfl,h⟩)
    ·simp [go_sem,hf,aq,hb,iX,iI,hi,k1,s1]
     exact aj (by simp [go_sem]) (.of (z':=(w.ba i { w.ak[i] with st:=5,fin:=w.now },true)) (by rw [<- hz]; simp [k1,s1]) ⟨by simp [go_sem],n,rfl,h.lp hv hb i { w.ak[i] with st:=5,fin:=w.now }⟩)
   ·by_cases s4 : w.ak[i].st = 4
    ·by_cases k2 : x.kind = 12
     ·simp [go_sem,hf,aq,hb,iX,iI,hi,k1,k2,s4]
      refine an c4 ?_
      rintro r bM ⟨rfl,v',h1⟩
      have bg:=h1.fin
      simp [go_sem,bg]
      exact aj (by simp [go_sem]) (.of (z':=(w.fault 4,true)) (by rw [<- hz]; simp [k2,s4]) ⟨by simp [go_sem],{ n with fv:=v' },rfl,h1⟩)
     ·simp [go_sem,hf,aq,hb,iX,iI,hi,k1,k2,s4]
      exact aj (by simp [go_sem]) (.of (z':=(w.ba i { w.ak[i] with st:=2,since:=w.now },true)) (by rw [<- hz]; simp [k1,k2,s4]) ⟨by simp [go_sem],n,rfl,h.lp hv hb i { w.ak[i] with st:=2,since:=w.now }⟩)
    ·have hor : ¬ (x.kind = 12 /\ w.ak[i].st = 4):=fun h=>s4 h.2
     by_cases k2 : x.kind = 12 <;> by_cases s1 : w.ak[i].st = 1 <;> by_cases s2 : w.ak[i].st = 2 <;> simp [go_sem,hf,aq,hb,iX,iI,hi,k1,k2,s4,s1,s2]
     all_goals first
      | exact aj (by simp [go_sem]) (.of (z':=(w,false)) (by rw [<- hz]; simp [k1,k2,s4,s1,s2]) ⟨by simp [go_sem],n,rfl,h⟩)
      | exact aj (by simp [go_sem]) (.of (z':=(w.ba i { w.ak[i] with st:=2,since:=w.now },true)) (by rw [<- hz]; simp [k1,k2,s4,s1,s2]) ⟨by simp [go_sem],n,rfl,h.lp hv hb i { w.ak[i] with st:=2,since:=w.now }⟩)
      | (refine an c1 ?_
         rintro r bM ⟨rfl,v',h1⟩
         have bg:=h1.fin
         simp [go_sem,bg]
         exact aj (by simp [go_sem]) (.of (z':=(w.fault 1,true)) (by rw [<- hz]; simp [k1,k2,s4,s1]) ⟨by simp [go_sem],{ n with fv:=v' },rfl,h1⟩))
      | omega
def rJ (w : RW) (x : Ev) : RW :=
 match ku w x with
 | none=>w.fault 4
 | some i =>
   let c:=w.ak.getD i yn
   if x.kind = 10 then (w.ai (decide (x.jQ ≠ x.call)) 6).ba i { c with read:=ck (c.read + x.n) }
   else match dp w x.call with
    | none=>w
    | some j =>
      let r:=w.aD.getD j z1
      ((w.ai (!r.idem && decide (0 < r.bK) && decide (r.bK < r.aM)) 10).dO j { r with bK:=r.aM }).ba i { c with bK:=ck (c.bK + x.n) }
def pH (aC : aa) (p : Nat) (z : RW) (r : V) (bx' : aa) : Prop:=r = .dh [] /\ ∃ n,n.p = p /\ WR aC n z bx'
theorem pH.of {aC bx' : aa} {p : Nat} {z z' : RW} {r : V} (hz : z = z') (h : pH aC p z' r bx') : pH aC p z r bx':=hz ▸ h
theorem vw {w : RW} {x : Ev} {i : Nat} (h : ku w x = some i) : eQ w x.conn x.bk = some i /\ i < w.ak.length:=by
 unfold ku at h
 split at h
 ·rename_i j hj
  split at h
  ·rename_i c hc
   split at h
   ·injection h with h
    subst h
    exact ⟨hj,pA hj⟩
   ·cases h
  ·cases h
 ·cases h
theorem G1 {aC bx : aa} {n : RN} {w : RW} (h : WR aC n w bx) (x : Ev) {i : Nat} (hi : i < w.ak.length) {b : Nat} (hv : n.cv = .own b 10 0 w.ak.length) {j : Nat} (hj : j < w.aD.length) {b2 : Nat} (z6 : n.rv = .own b2 6 0 w.aD.length) (s : St) (hs : je s ⟨79,bR [(3,lx x),(4,.ptr b 10 i 0),(5,.ptr b2 6 j 0)],bx⟩) :
 pw prog sa (fN prog [] (pH aC n.p ((w.dO j { w.aD[j] with bK:=w.aD[j].aM }).ba i { w.ak[i] with bK:=ck (w.ak[i].bK + x.n) }))) s:=by
 have hf:=h.fin
 have c9:=h.Cz z6
 have h1:=h.Ba z6 c9 j { w.aD[j] with bK:=w.aD[j].aM }
 have hb:=h1.C0 hv
 refine jq hs ?_
 simp [go_sem,hf,c9,hj,aX,mB,iI]
 rw [show (V.agg [V.int .i64 w.aD[j].call,V.bool w.aD[j].idem,V.int .i64 w.aD[j].aM,V.int .i64 w.aD[j].at_,V.int .i64 w.aD[j].aM,V.bool w.aD[j].ended] : V) = mB { w.aD[j] with bK:=w.aD[j].aM } from rfl]
 have bg:=h1.fin
 generalize (aA bx b2 (some (.row KY 6 ((w.aD.map mB).set j (mB { w.aD[j] with bK:=w.aD[j].aM }))))) = bM at *
 simp [go_sem,bg,hb,hi,aX,iX,iI]
 exact aj (by simp [go_sem]) ⟨by simp [go_sem],n,rfl,h1.lp hv hb i { w.ak[i] with bK:=ck (w.ak[i].bK + x.n) }⟩
theorem Lf {aC bx : aa} {n : RN} {w : RW} (h : WR aC n w bx) (x : Ev) (hl : w.aG.length <= 50000) (Fx : ∀ i,ku w x = some i -> x.kind ≠ 10 -> ∃ j,dp w x.call = some j) :
 aw prog 130 [.ptr n.p 10 0 0,aX x] bx (pH aC n.p (rJ w x)):=by
 refine N6 fun hf=>?_
 have cO:=KX h x
 have aq:=h.row
 unfold gu at aq
 obtain ⟨z,hz⟩ : ∃ z,rJ w x = z:=⟨_,rfl⟩
 rw [hz]
 unfold rJ at hz
 have evf : V.agg [V.int .i64 x.kind,V.int .i64 x.bk,V.int .i64 x.t,V.int .i64 x.call,V.int .i64 x.conn,V.int .i64 x.jQ,V.int .i64 x.n,V.bool x.yes] = aX x:=rfl
 simp [go_sem,VQ,hf,aX,iI]
 rw [evf]
 cases iH : ku w x with
 | none =>
   rw [iH] at cO hz
   dsimp only at hz
   unfold gh at cO
   refine ag cO ?_
   simp [go_sem,hf]
   refine an (cH h 4 (by omega)) ?_
   rintro r bM ⟨rfl,v',h1⟩
   have bg:=h1.fin
   simp [go_sem,bg]
   exact aj (by simp [go_sem]) (.of hz.symm ⟨by simp [go_sem],{ n with fv:=v' },rfl,h1⟩)
 | some i =>
   have hi:=(vw iH).2
   have e1 : w.ak.getD i yn = w.ak[i]:=by simp [hi]
   rw [iH] at cO hz
   dsimp only at hz
   rw [e1] at hz
   obtain ⟨b,hv,hb⟩:=h.ak.at (by simpa using by omega)
   simp at hv
   unfold gh Ac at cO
   rw [hv] at cO
   simp at cO
   refine ag cO ?_
   by_cases k1 : x.kind = 10
   ·by_cases k2 : x.jQ = x.call
    ·simp [go_sem,hf,aq,hb,iX,iI,hi,k1,k2,aX]
     exact aj (by simp [go_sem]) (.of (z':=w.ba i { w.ak[i] with read:=ck (w.ak[i].read + x.n) }) (by rw [<- hz]; simp [k1,k2,RW.ai]) ⟨by simp [go_sem],n,rfl,h.lp hv hb i { w.ak[i] with read:=ck (w.ak[i].read + x.n) }⟩)
    ·simp [go_sem,hf,aq,hb,iX,iI,hi,k1,k2,aX]
     refine an (cH h 6 (by omega)) ?_
     rintro r bM ⟨rfl,v',h1⟩
     have bg:=h1.fin
     have eU:=h1.C0 hv
     simp [go_sem,bg,eU,hi,iX,iI]
     exact aj (by simp [go_sem]) (.of (z':=(w.fault 6).ba i { w.ak[i] with read:=ck (w.ak[i].read + x.n) }) (by rw [<- hz]; simp [k1,k2,RW.ai]) ⟨by simp [go_sem],{ n with fv:=v' },rfl,h1.lp hv eU i { w.ak[i] with read:=ck (w.ak[i].read + x.n) }⟩)
   ·obtain ⟨j,hj⟩:=Fx i iH k1
    have lB:=nh hj
    have e2 : w.aD.getD j z1 = w.aD[j]:=by simp [lB]
    have cF:=oC h x.call
    rw [hj] at cF hz
    dsimp only at hz
    rw [e2,if_neg k1] at hz
    obtain ⟨b2,z6,c9⟩:=h.aD.at (by simpa using by omega)
    simp at z6
    unfold gh Ac at cF
    rw [z6] at cF
    simp at cF
    simp [go_sem,hf,aq,hb,iX,iI,hi,k1,aX]
    refine ag cF ?_
    have go (hd : (!w.aD[j].idem && decide (0 < w.aD[j].bK) && decide (w.aD[j].bK < w.aD[j].aM)) = true) {v' : V} {bM : aa} (h1 : WR aC { n with fv:=v' } { w with aG:=w.aG ++ [(10,w.ev)] } bM) (s : St) (hs : je s ⟨79,bR [(3,lx x),(4,.ptr b 10 i 0),(5,.ptr b2 6 j 0)],bM⟩) :
     pw prog sa (fN prog [] (pH aC n.p z)) s:=by
     rw [hd] at hz
     subst hz
     exact G1 h1 x hi hv lB z6 _ hs
    have go0 (hd : (!w.aD[j].idem && decide (0 < w.aD[j].bK) && decide (w.aD[j].bK < w.aD[j].aM)) = false) (s : St) (hs : je s ⟨79,bR [(3,lx x),(4,.ptr b 10 i 0),(5,.ptr b2 6 j 0)],bx⟩) :
     pw prog sa (fN prog [] (pH aC n.p z)) s:=by
     rw [hd] at hz
     subst hz
     exact G1 h x hi hv lB z6 _ hs
    cases s1 : w.aD[j].idem <;> by_cases s2 : 0 < w.aD[j].bK <;> by_cases s3 : w.aD[j].bK < w.aD[j].aM <;> simp [go_sem,hf,aq,c9,mB,iI,lB,s1,s2,s3]
    all_goals first
     | exact go0 (by simp [s1,s2,s3]) _ (al (by simp [go_sem,lx,aX,iI]))
     | (refine an (cH h 10 (by omega)) ?_
        rintro r bM ⟨rfl,v',h1⟩
        have bg:=h1.fin
        simp [go_sem,bg]
        exact go (by simp [s1,s2,s3]) h1 _ (al (by simp [go_sem,lx,aX,iI])))
def DU : fb:=⟨0,0,0,0⟩
def aY (l : List Int) (n : Int) : List Int:=l.filter (· != n)
def er (w : RW) (x : Ev) : RW × Bool :=
 let b:=w.ah.getD x.bk gx
 if x.kind = 3 then
  if jj w x.call x.bk then ((w.aO x.bk { b with waits:=b.waits ++ [x.call] }).ai (decide ((w.aL.getD x.bk DU).queue < (b.waits.length + 1 : Nat))) 3,true) else (w,false)
 else if x.kind = 4 then
  if x.call ∈ b.waits then (w.aO x.bk { b with waits:=aY b.waits x.call },true) else (w,false)
 else if x.kind = 5 then
  if x.call ∈ b.waits \/ jj w x.call x.bk then
   let w1:=(w.ai (fj w x) 9).aO x.bk { b with waits:=aY b.waits x.call }
   let w2:=w1.aO x.bk { b with waits:=aY b.waits x.call,au:=b.au ++ [x.call] }
   (w2.ai (decide ((w.aL.getD x.bk DU).max < qM w2 x.bk)) 2,true)
  else (w,false)
 else if x.call ∈ b.au then (w.aO x.bk { b with au:=aY b.au x.call },true)
 else (w,false)
theorem eE.tz {bx bx' : aa} {e sz : Nat} {es : List V} {v r : V} (h : Acc bx e sz es r bx') : eE v r bx bx':=by
 have hc : ∀ b,jD v bx b ≠ none -> jD v bx b = bx b:=by
  intro b hb
  unfold jD at hb ⊢
  split at hb
  ·rename_i c _ _ _
   by_cases e : b = c
   ·subst e; exact absurd (af _ _ _) hb
   ·exact ae _ _ e
  ·rfl
 refine ⟨h.fin,fun b hb=>?_,fun b sz o m e=>?_⟩
 ·rw [hc b hb]
  exact h.ext b (by rw [<- hc b hb]; exact hb)
 ·rcases h.is with ⟨_,h1⟩ | ⟨b',h1,h2,_⟩
  ·rw [h1] at e; cases e
  ·rw [h2] at e
   injection e with e
   subst e
   cases h3 : jD v bx b' with
   | none=>rfl
   | some y=>rw [hc b' (by rw [h3]; simp),h1] at h3; cases h3
theorem WR.DV {aC bx bx' : aa} {n : RN} {w : RW} (h : WR aC n w bx) {v v' : V} (hm : eE v v' bx bx') {es : List V} (hv : bd bx 2 1 es v) : bx' n.bb = some (.row xy 5 (w.ah.mapIdx (eI n.dv n.wv))) /\ bx' n.p = some (.row sc 10 [gu n w]):=by
 rw [hm.other (by rw [h.ah]; simp) (hv.ne h.ah (by decide)),hm.other (by rw [h.row]; simp) (hv.ne h.row (by decide))]
 exact ⟨h.ah,h.row⟩
theorem J0 {aC bx : aa} {n : RN} {w : RW} (h : WR aC n w bx) (x : Ev) (hx : x.bk < w.ah.length) (hl : w.aG.length <= 50000) (di : x.bk < w.aL.length) (qS : ∀ b,b ∈ w.ah -> b.waits.length <= 90000 /\ b.au.length <= 90000) (hk : x.kind = 3) :
 aw prog 127 [.ptr n.p 10 0 0,aX x] bx (fo aC n.p (er w x)):=by
 refine xe fun hf=>?_
 have aq:=h.row
 unfold gu at aq
 have cZ:=h.ah
 have e2 : w.ah.getD x.bk gx = w.ah[x.bk]:=by simp [hx]
 have e3 : w.aL.getD x.bk DU = w.aL[x.bk]:=by simp [di]
 obtain ⟨z,hz⟩ : ∃ z,er w x = z:=⟨_,rfl⟩
 rw [hz]
 unfold er at hz
 rw [e2,e3] at hz
 dsimp only at hz
 rw [if_pos hk] at hz
 have hw:=h.ik _ _ (List.getElem?_eq_getElem hx)
 have hq:=h.ng _ _ (List.getElem?_eq_getElem hx)
 have Ow:=qS _ (List.getElem_mem hx)
 have cI:=xv hw (by omega) x.call
 have cM:=Gk h x.call x.bk
 simp [go_sem,DG,hf,aX,iI,aq,cZ,hx,eI,hw.strip,hw.live]
 refine ag cI ?_
 simp [go_sem,hf,hk]
 refine ag cM ?_
 cases Ae : jj w x.call x.bk
 ·simp [go_sem,hf]
  exact aj (by simp [go_sem]) (.of (z':=(w,false)) (by rw [<- hz]; simp [Ae]) ⟨by simp [go_sem],n,rfl,h⟩)
 ·simp [go_sem,hf,cZ,hx,eI,iI,hw.strip,hw.live]
  refine ey (.int .i64 0) hw hf (news:=[iI x.call]) mA AQ (by simp [go_sem,bP,iI]) tp (by simp [go_sem]) (by decide) (by simp [F0]; omega) (by simp; omega) (by simp [go_sem]) fun v' bx' ha hm _=>?_
  have e4 : w.ah[x.bk].waits.map iI ++ [iI x.call] = (w.ah[x.bk].waits ++ [x.call]).map iI:=by simp
  rw [e4] at ha
  have hn:=h.waits hx (l:=w.ah[x.bk].waits ++ [x.call]) (by simp; omega) ha hm
  obtain ⟨eU,lJ⟩:=h.DV hm hw
  have bg:=hm.fin
  have hlen:=fun bx2=>fP (bx2:=bx2) (t:=60) ha mA
  simp [go_sem,ha.strip,ha.live] at hlen
  have bp : n.p ≠ n.bb:=fun e=>by rw [<- e,lJ] at eU; injection eU with h1; injection h1 with h1; revert h1; decide
  unfold gu at lJ
  simp only [eI,af] at hn
  by_cases c1 : w.aL[x.bk].queue < (w.ah[x.bk].waits.length : Int) + 1
  ·simp [go_sem,eU,hx,eI,ha.strip,ha.live,ha.cells,ha.okV,bg,iI,hlen,lJ,ae,bp,di,bT,ar,c1]
   refine an (cH hn 3 (by simpa using by omega)) ?_
   rintro r bx2 ⟨rfl,v2,h2⟩
   have da:=h2.fin
   simp [go_sem,da]
   exact aj (by simp [go_sem]) (.of (z':=((w.aO x.bk { w.ah[x.bk] with waits:=w.ah[x.bk].waits ++ [x.call] }).fault 3,true)) (by rw [<- hz]; simp [Ae,RW.ai,c1]) ⟨by simp [go_sem],{ n with wv:=aA n.wv x.bk v',fv:=v2 },rfl,h2⟩)
  ·simp [go_sem,eU,hx,eI,ha.strip,ha.live,ha.cells,ha.okV,bg,iI,hlen,lJ,ae,bp,di,bT,ar,c1]
   exact aj (by simp [go_sem]) (.of (z':=(w.aO x.bk { w.ah[x.bk] with waits:=w.ah[x.bk].waits ++ [x.call] },true)) (by rw [<- hz]; simp [Ae,RW.ai,c1]) ⟨by simp [go_sem],{ n with wv:=aA n.wv x.bk v' },rfl,hn⟩)
theorem J1 {aC bx : aa} {n : RN} {w : RW} (h : WR aC n w bx) (x : Ev) (hx : x.bk < w.ah.length) (hk : x.kind = 4) :
 aw prog 127 [.ptr n.p 10 0 0,aX x] bx (fo aC n.p (er w x)):=by
 refine xe fun hf=>?_
 have aq:=h.row
 unfold gu at aq
 have cZ:=h.ah
 have e2 : w.ah.getD x.bk gx = w.ah[x.bk]:=by simp [hx]
 obtain ⟨z,hz⟩ : ∃ z,er w x = z:=⟨_,rfl⟩
 rw [hz]
 unfold er at hz
 rw [e2] at hz
 dsimp only at hz
 rw [if_neg (by omega),if_pos hk] at hz
 have hw:=h.ik _ _ (List.getElem?_eq_getElem hx)
 have Ow:=h.sm.2.2.2.2 _ (List.getElem_mem hx)
 have cI:=xv hw (by omega) x.call
 have gI:=oB w.ah[x.bk].waits x.call
 simp [go_sem,DG,hf,aX,iI,aq,cZ,hx,eI,hw.strip,hw.live]
 refine ag cI ?_
 by_cases c1 : x.call ∈ w.ah[x.bk].waits
 ·have k1:=gI.2 c1
  simp [go_sem,hf,hk,k1]
  refine DH ?_
  simp [go_sem,xc,hf,cZ,hx,eI,iI,hw.strip,hw.live]
  refine iC (kJ hw (by omega) x.call) (mC hf _ _ _) ?_
  intro v' bx' fA
  have hm : eE (n.wv x.bk) v' bx bx':=.tz fA
  have ha:=bd.of fA
  have hn:=h.waits hx (l:=aY w.ah[x.bk].waits x.call) (by have:=List.length_filter_le (· != x.call) w.ah[x.bk].waits; unfold aY; omega) ha hm
  obtain ⟨eU,lJ⟩:=h.DV hm hw
  have bg:=hm.fin
  simp only [eI,af] at hn
  simp [go_sem,eU,hx,eI,ha.strip,ha.live,ha.cells,ha.okV,bg,iI,ar]
  exact aj (by simp [go_sem]) (.of (z':=(w.aO x.bk { w.ah[x.bk] with waits:=aY w.ah[x.bk].waits x.call },true)) (by rw [<- hz]; simp [c1]) ⟨by simp [go_sem],{ n with wv:=aA n.wv x.bk v' },rfl,hn⟩)
 ·have k1 : ¬ 0 <= sb w.ah[x.bk].waits x.call:=fun h=>c1 (gI.1 h)
  simp [go_sem,hf,hk,k1]
  exact aj (by simp [go_sem]) (.of (z':=(w,false)) (by rw [<- hz]; simp [c1]) ⟨by simp [go_sem],n,rfl,h⟩)
theorem J2 {aC bx : aa} {n : RN} {w : RW} (h : WR aC n w bx) (x : Ev) (hx : x.bk < w.ah.length) (hk : x.kind = 6) :
 aw prog 127 [.ptr n.p 10 0 0,aX x] bx (fo aC n.p (er w x)):=by
 refine xe fun hf=>?_
 have aq:=h.row
 unfold gu at aq
 have cZ:=h.ah
 have e2 : w.ah.getD x.bk gx = w.ah[x.bk]:=by simp [hx]
 obtain ⟨z,hz⟩ : ∃ z,er w x = z:=⟨_,rfl⟩
 rw [hz]
 unfold er at hz
 rw [e2] at hz
 dsimp only at hz
 rw [if_neg (by omega),if_neg (by omega),if_neg (by omega)] at hz
 have hw:=h.ik _ _ (List.getElem?_eq_getElem hx)
 have hq:=h.ng _ _ (List.getElem?_eq_getElem hx)
 have Ow:=h.sm.2.2.2.2 _ (List.getElem_mem hx)
 have cI:=xv hw (by omega) x.call
 have cD:=xv hq (by omega) x.call
 have gI:=oB w.ah[x.bk].au x.call
 simp [go_sem,DG,hf,aX,iI,aq,cZ,hx,eI,hw.strip,hw.live]
 refine ag cI ?_
 simp [go_sem,hf,hk,cZ,hx,eI,iI,hq.strip,hq.live]
 refine ag cD ?_
 by_cases c1 : x.call ∈ w.ah[x.bk].au
 ·have k1:=gI.2 c1
  have k2 : ¬ sb w.ah[x.bk].au x.call < 0:=by omega
  simp [go_sem,hf,hk,k2]
  refine Gc ?_
  simp [go_sem,AU,hf,cZ,hx,eI,iI,hq.strip,hq.live]
  refine iC (kJ hq (by omega) x.call) (mC hf _ _ _) ?_
  intro v' bx' fA
  have hm : eE (n.dv x.bk) v' bx bx':=.tz fA
  have ha:=bd.of fA
  have hn:=h.au hx (l:=aY w.ah[x.bk].au x.call) (by have:=List.length_filter_le (· != x.call) w.ah[x.bk].au; unfold aY; omega) ha hm
  obtain ⟨eU,lJ⟩:=h.DV hm hq
  have bg:=hm.fin
  simp only [eI,af] at hn
  simp [go_sem,eU,hx,eI,ha.strip,ha.live,ha.cells,ha.okV,bg,iI,ar]
  exact aj (by simp [go_sem]) (.of (z':=(w.aO x.bk { w.ah[x.bk] with au:=aY w.ah[x.bk].au x.call },true)) (by rw [<- hz]; simp [c1]) ⟨by simp [go_sem],{ n with dv:=aA n.dv x.bk v' },rfl,hn⟩)
 ·have k1 : sb w.ah[x.bk].au x.call < 0:=by
   rcases Int.lt_or_le (sb w.ah[x.bk].au x.call) 0 with h | h
   ·exact h
   ·exact absurd (gI.1 h) c1
  simp [go_sem,hf,hk,k1]
  exact aj (by simp [go_sem]) (.of (z':=(w,false)) (by rw [<- hz]; simp [c1]) ⟨by simp [go_sem],n,rfl,h⟩)
theorem sj {aC bx : aa} {n : RN} {w : RW} (h : WR aC n w bx) (x : Ev) (hx : x.bk < w.ah.length) (hl : w.aG.length <= 50100) (di : x.bk < w.aL.length) (qS : ∀ b,b ∈ w.ah -> b.waits.length <= 90000 /\ b.au.length <= 90000)
 {Q : Exit -> St -> Prop} {w2 : RW} (jN : w2 = w.aO x.bk { w.ah[x.bk] with waits:=aY w.ah[x.bk].waits x.call,au:=w.ah[x.bk].au ++ [x.call] })
 (hQ : ∀ l bx' n',n'.p = n.p -> WR aC n' (w2.ai (decide ((w.aL[x.bk]).max < qM w2 x.bk)) 2) bx' -> Q .normal ⟨150,bR l,bx'⟩) (s : St) (hs : je s ⟨150,bR [(0,.ptr n.p 10 0 0),(3,lx x),(5,.ptr n.bb 5 x.bk 0)],bx⟩) :
 pw prog zj Q s:=by
 have hf:=h.fin
 have aq:=h.row
 unfold gu at aq
 have cZ:=h.ah
 have hw:=h.ik _ _ (List.getElem?_eq_getElem hx)
 have Ow:=h.sm.2.2.2.2 _ (List.getElem_mem hx)
 have afk:=qS _ (List.getElem_mem hx)
 refine jq hs ?_
 simp [go_sem]
 refine DI ?_
 simp [go_sem,xd,hf,cZ,hx,eI,iI,hw.strip,hw.live,lx,aX]
 refine iC (kJ hw (by omega) x.call) (mC hf _ _ _) ?_
 intro v' bx' fA
 have hm : eE (n.wv x.bk) v' bx bx':=.tz fA
 have ha:=bd.of fA
 have hn:=h.waits hx (l:=aY w.ah[x.bk].waits x.call) (by have:=List.length_filter_le (· != x.call) w.ah[x.bk].waits; unfold aY; omega) ha hm
 obtain ⟨eU,lJ⟩:=h.DV hm hw
 have bg:=hm.fin
 have jg : x.bk < (w.ah.set x.bk { w.ah[x.bk] with waits:=aY w.ah[x.bk].waits x.call }).length:=by simpa using hx
 simp only [eI,af,iI] at hn
 simp [go_sem,eU,hx,eI,ha.strip,ha.live,ha.cells,ha.okV,bg,iI,ar]
 have da:=hn.fin
 generalize (aA bx' n.bb (some (bI.row xy 5 ((w.ah.mapIdx (eI n.dv n.wv)).set x.bk (V.agg [V.bool w.ah[x.bk].down,V.int .i64 w.ah[x.bk].gL,V.int .i64 w.ah[x.bk].aK,n.dv x.bk,v']))))) = bx2 at *
 have hq : bd bx2 2 1 (w.ah[x.bk].au.map iI) (n.dv x.bk):=by simpa using hn.ng _ _ (List.getElem?_eq_getElem jg)
 refine ey (.int .i64 0) hq da (news:=[iI x.call]) mA AQ (by simp [go_sem,bP,iI]) tp (by simp [go_sem]) (by decide) (by simp [F0]; omega) (by simp; omega) (by simp [go_sem]) fun v2 bx3 Fq Pq _=>?_
 have e4 : w.ah[x.bk].au.map iI ++ [iI x.call] = (w.ah[x.bk].au ++ [x.call]).map iI:=by simp
 rw [e4] at Fq
 have xF:=hn.au jg (l:=w.ah[x.bk].au ++ [x.call]) (by simp; omega) Fq Pq
 obtain ⟨rG,DF⟩ : bx3 n.bb = bx2 n.bb /\ bx3 n.p = bx2 n.p:=by
  have k1 : bx2 n.bb = _:=hn.ah
  have k2 : bx2 n.p = _:=hn.row
  exact ⟨Pq.other (by rw [k1]; simp) (hq.ne k1 (by decide)),Pq.other (by rw [k2]; simp) (hq.ne k2 (by decide))⟩
 have lu:=Pq.fin
 have c9 : bx2 n.bb = some (.row xy 5 ((w.ah.set x.bk { w.ah[x.bk] with waits:=aY w.ah[x.bk].waits x.call }).mapIdx (eI n.dv (aA n.wv x.bk v')))):=hn.ah
 rw [c9] at rG
 simp [go_sem,rG,hx,eI,Fq.strip,Fq.live,Fq.cells,Fq.okV,lu,iI,ar]
 have Ws : WR aC { n with wv:=aA n.wv x.bk v',dv:=aA n.dv x.bk v2 } w2 (aA bx3 n.bb (some (.row xy 5 ((w.ah.mapIdx (eI n.dv (aA n.wv x.bk v'))).set x.bk (V.agg [V.bool w.ah[x.bk].down,V.int .i64 w.ah[x.bk].gL,V.int .i64 w.ah[x.bk].aK,v2,aA n.wv x.bk v' x.bk]))))):=by
  subst jN
  simpa [eI,iI,RW.aO,af] using xF
 have iJ : w2.ah.length = w.ah.length /\ w2.aL = w.aL /\ w2.aG = w.aG:=by subst jN; simp [RW.aO]
 have cM:=NV Ws x.bk (by omega)
 have nS:=Ws.row
 unfold gu at nS
 rw [iJ.2.1] at nS
 have nR:=Ws.fin
 generalize (aA bx3 n.bb (some (bI.row xy 5 ((w.ah.mapIdx (eI n.dv (aA n.wv x.bk v'))).set x.bk (V.agg [V.bool w.ah[x.bk].down,V.int .i64 w.ah[x.bk].gL,V.int .i64 w.ah[x.bk].aK,v2,aA n.wv x.bk v' x.bk]))))) = bx4 at *
 refine ag cM ?_
 by_cases c1 : w.aL[x.bk].max < qM w2 x.bk
 ·simp [go_sem,nR,nS,di,bT,iI,c1]
  refine an (cH Ws 2 (by rw [iJ.2.2]; omega)) ?_
  rintro r kd ⟨rfl,v5,h5⟩
  have pE:=h5.fin
  simp [go_sem,pE]
  exact hQ _ _ { n with wv:=aA n.wv x.bk v',dv:=aA n.dv x.bk v2,fv:=v5 } rfl (by simpa [RW.ai,RW.fault,c1] using h5)
 ·simp [go_sem,nR,nS,di,bT,iI,c1]
  exact hQ _ _ { n with wv:=aA n.wv x.bk v',dv:=aA n.dv x.bk v2 } rfl (by simpa [RW.ai,RW.fault,c1] using Ws)
theorem J3 {aC bx : aa} {n : RN} {w : RW} (h : WR aC n w bx) (x : Ev) (hx : x.bk < w.ah.length) (hl : w.aG.length <= 50000) (di : x.bk < w.aL.length) (qS : ∀ b,b ∈ w.ah -> b.waits.length <= 90000 /\ b.au.length <= 90000) (hk : x.kind = 5) :
 aw prog 127 [.ptr n.p 10 0 0,aX x] bx (fo aC n.p (er w x)):=by
 refine xe fun hf=>?_
 have aq:=h.row
 unfold gu at aq
 have cZ:=h.ah
 have e2 : w.ah.getD x.bk gx = w.ah[x.bk]:=by simp [hx]
 have e3 : w.aL.getD x.bk DU = w.aL[x.bk]:=by simp [di]
 obtain ⟨z,hz⟩ : ∃ z,er w x = z:=⟨_,rfl⟩
 rw [hz]
 unfold er at hz
 rw [e2,e3] at hz
 dsimp only at hz
 rw [if_neg (by omega),if_neg (by omega),if_pos hk] at hz
 have hw:=h.ik _ _ (List.getElem?_eq_getElem hx)
 have Ow:=h.sm.2.2.2.2 _ (List.getElem_mem hx)
 have cI:=xv hw (by omega) x.call
 have cM:=Gk h x.call x.bk
 have cO:=qL h x hx
 have gI:=oB w.ah[x.bk].waits x.call
 have evf : V.agg [V.int .i64 x.kind,V.int .i64 x.bk,V.int .i64 x.t,V.int .i64 x.call,V.int .i64 x.conn,V.int .i64 x.jQ,V.int .i64 x.n,V.bool x.yes] = aX x:=rfl
 simp [go_sem,DG,hf,aX,iI,aq,cZ,hx,eI,hw.strip,hw.live]
 refine ag cI ?_
 have evg : V.agg [V.int .i64 5,V.int .i64 x.bk,V.int .i64 x.t,V.int .i64 x.call,V.int .i64 x.conn,V.int .i64 x.jQ,V.int .i64 x.n,V.bool x.yes] = aX x:=by simp [aX,iI,hk]
 by_cases c1 : x.call ∈ w.ah[x.bk].waits \/ jj w x.call x.bk = true
 ·rw [if_pos c1] at hz
  have key : z = (((w.ai (fj w x) 9).aO x.bk { w.ah[x.bk] with waits:=aY w.ah[x.bk].waits x.call,au:=w.ah[x.bk].au ++ [x.call] }).ai (decide (w.aL[x.bk].max < qM ((w.ai (fj w x) 9).aO x.bk { w.ah[x.bk] with waits:=aY w.ah[x.bk].waits x.call,au:=w.ah[x.bk].au ++ [x.call] }) x.bk)) 2,true):=by
   rw [<- hz]
   simp only [RW.aO,List.set_set]
   cases fj w x <;> simp [RW.ai,RW.fault]
  by_cases c2 : x.call ∈ w.ah[x.bk].waits
  ·have k1:=gI.2 c2
   simp [go_sem,hf,hk,k1]
   refine jI (.bool false) (by simp [go_sem]) ?_
   simp [go_sem,hf]
   rw [evg]
   refine ag cO ?_
   cases ho : fj w x
   ·simp [go_sem,hf]
    refine sj h x hx (by omega) di qS rfl (fun l bx' n' hp hn=>?_) _ (al (by simp [go_sem,lx,aX,iI]))
    have J4:=hn.fin
    rw [ho] at key
    simp [go_sem,J4]
    exact aj (by simp [go_sem]) (.of key ⟨by simp [go_sem],n',hp,hn⟩)
   ·simp [go_sem,hf]
    refine an (cH h 9 (by omega)) ?_
    rintro r bM ⟨rfl,v1,h1⟩
    have bg:=h1.fin
    simp [go_sem,bg]
    refine sj h1 x hx (by simp; omega) di qS rfl (fun l bx' n' hp hn=>?_) _ (al (by simp [go_sem,lx,aX,iI]))
    have J4:=hn.fin
    rw [ho] at key
    simp [go_sem,J4]
    exact aj (by simp [go_sem]) (.of key ⟨by simp [go_sem],n',hp,hn⟩)
  ·have k1 : ¬ 0 <= sb w.ah[x.bk].waits x.call:=fun h=>c2 (gI.1 h)
   have Ae:=c1.resolve_left c2
   rw [Ae] at cM
   simp [go_sem,hf,hk,k1]
   refine dn cM (by simp) (by simp [go_sem]) ?_
   simp [go_sem,hf]
   rw [evg]
   refine ag cO ?_
   cases ho : fj w x
   ·simp [go_sem,hf]
    refine sj h x hx (by omega) di qS rfl (fun l bx' n' hp hn=>?_) _ (al (by simp [go_sem,lx,aX,iI]))
    have J4:=hn.fin
    rw [ho] at key
    simp [go_sem,J4]
    exact aj (by simp [go_sem]) (.of key ⟨by simp [go_sem],n',hp,hn⟩)
   ·simp [go_sem,hf]
    refine an (cH h 9 (by omega)) ?_
    rintro r bM ⟨rfl,v1,h1⟩
    have bg:=h1.fin
    simp [go_sem,bg]
    refine sj h1 x hx (by simp; omega) di qS rfl (fun l bx' n' hp hn=>?_) _ (al (by simp [go_sem,lx,aX,iI]))
    have J4:=hn.fin
    rw [ho] at key
    simp [go_sem,J4]
    exact aj (by simp [go_sem]) (.of key ⟨by simp [go_sem],n',hp,hn⟩)
 ·rw [if_neg c1] at hz
  obtain ⟨c2,c3⟩:=not_or.1 c1
  have k1 : ¬ 0 <= sb w.ah[x.bk].waits x.call:=fun h=>c2 (gI.1 h)
  rw [Bool.not_eq_true] at c3
  rw [c3] at cM
  simp [go_sem,hf,hk,k1]
  refine dn cM (by simp) (by simp [go_sem]) ?_
  simp [go_sem,hf]
  exact aj (by simp [go_sem]) (.of hz.symm ⟨by simp [go_sem],n,rfl,h⟩)
theorem bd.ext {bx bx' : aa} {e sz : Nat} {es : List V} {v : V} (h : bd bx e sz es v) (he : Ext bx bx') : bd bx' e sz es v:=by
 rcases h with h | ⟨b,h1,h2⟩
 ·exact .inl h
 ·exact .inr ⟨b,h1,by rw [he b (by rw [h2]; simp),h2]⟩
theorem Ext.trans' {a b c : aa} (h : Ext a b) (h' : Ext b c) : Ext a c:=fun x hx=>by rw [h' x (by rw [h x hx]; exact hx),h x hx]
theorem WR.mono {aC bx bx' : aa} {n : RN} {w : RW} (h : WR aC n w bx) (he : Ext bx bx') (hf : bj bx') : WR aC n w bx' :=
 ⟨hf,Ext.trans' h.ext he,h.np,h.nb,h.nc,h.nr,h.nf,h.nd,h.nw,by rw [he _ (by rw [h.row]; simp)]; exact h.row,by rw [he _ (by rw [h.ah]; simp)]; exact h.ah,h.ak.ext he,h.aD.ext he,h.aG.ext he,fun i b hi=>(h.ng i b hi).ext he,fun i b hi=>(h.ik i b hi).ext he,h.dd,h.ww,h.dw,h.sm⟩
theorem C5 {bx : aa} {b : Nat} (hb : bx b = none) (x : Option bI) : Ext bx (aA bx b x):=fun c hc=>ae _ _ (by rintro rfl; exact hc hb)
def pI (w : RW) (x : Ev) : RW × Bool :=
 let b:=w.ah.getD x.bk gx
 if x.call ∈ b.au then
  if w.ak.any (fun c=>c.num == x.conn) then (w,false)
  else
   let w1:=w.aO x.bk { b with au:=aY b.au x.call }
   ({ w1 with ak:=w1.ak ++ [if x.yes then ⟨x.conn,x.bk,1,x.call,w.now,0,0,1,0,0⟩ else ⟨x.conn,x.bk,3,0,w.now,0,0,0,0,0⟩] },true)
 else (w,false)
theorem J5 {aC bx : aa} {n : RN} {w : RW} (h : WR aC n w bx) (x : Ev) (hl : w.ak.length <= 90000) {b : Nat} (hb : bx b = none) (s : St) (hs : je s ⟨79,bR [(0,.ptr n.p 10 0 0),(3,lx x),(7,.ptr b 10 0 0)],aA bx b (some (.row Ct 10 [iX ⟨x.conn,x.bk,3,0,w.now,0,0,0,0,0⟩]))⟩) :
 pw prog Co (fN prog [.tmp 4] (fo aC n.p ({ w with ak:=w.ak ++ [if x.yes then ⟨x.conn,x.bk,1,x.call,w.now,0,0,1,0,0⟩ else ⟨x.conn,x.bk,3,0,w.now,0,0,0,0,0⟩] },true))) s:=by
 have hf:=h.fin
 obtain ⟨c1,pQ⟩ : ∃ c : RC,c = if x.yes then ⟨x.conn,x.bk,1,x.call,w.now,0,0,1,0,0⟩ else ⟨x.conn,x.bk,3,0,w.now,0,0,0,0,0⟩:=⟨_,rfl⟩
 rw [<- pQ]
 obtain ⟨z,hz⟩ : ∃ z,({ w with ak:=w.ak ++ [c1] },true) = (z : RW × Bool):=⟨_,rfl⟩
 rw [hz]
 refine jq hs ?_
 have go (c : RC) : WR aC n w (aA bx b (some (.row Ct 10 [iX c]))):=h.mono (C5 hb _) ((ar _ _ _).2 hf)
 cases hy : x.yes
 ·rw [hy] at pQ
  have h1:=go ⟨x.conn,x.bk,3,0,w.now,0,0,0,0,0⟩
  have eU : aA bx b (some (.row Ct 10 [iX ⟨x.conn,x.bk,3,0,w.now,0,0,0,0,0⟩])) b = _:=af _ _ _
  generalize aA bx b (some (.row Ct 10 [iX ⟨x.conn,x.bk,3,0,w.now,0,0,0,0,0⟩])) = bM at *
  have bg:=h1.fin
  have aq:=h1.row
  unfold gu at aq
  simp [go_sem,bg,eU,aq,lx,aX,iI,hy,iX]
  refine ey (.agg #[.int .i64 0,.int .i64 0,.int .i64 0,.int .i64 0,.int .i64 0,.int .i64 0,.int .i64 0,.int .i64 0,.int .i64 0,.int .i64 0]) h1.ak bg (news:=[iX c1]) wW F5 (by simp [go_sem,bP,iX,iI,pQ]) zg (by simp [go_sem]) (by decide) (by simp [F6]; omega) (by simp; omega) (by simp [go_sem]) fun v' bx' ha hm _=>?_
  have hn:=h1.Gl (f:=c1) (by omega) ha hm
  have hp : bx' n.p = some (.row sc 10 [gu n w]):=by rw [hm.other (by rw [h1.row]; simp) (h1.ak.ne h1.row (by decide)),h1.row]
  unfold gu at hp
  simp [go_sem,hp,ha.strip,ha.live,ha.cells,ha.okV,hm.fin,iI]
  exact aj (by simp [go_sem]) (.of hz.symm ⟨by simp [go_sem],{ n with cv:=v' },rfl,hn⟩)
 ·rw [hy] at pQ
  have dD : aA bx b (some (.row Ct 10 [iX ⟨x.conn,x.bk,3,0,w.now,0,0,0,0,0⟩])) b = _:=af _ _ _
  have hf0:=(go ⟨x.conn,x.bk,3,0,w.now,0,0,0,0,0⟩).fin
  simp [go_sem,hf,dD,lx,aX,iI,hy,iX]
  refine ⟨by simp [jh,lj,mi,jE],?_⟩
  have h1:=go ⟨x.conn,x.bk,1,x.call,w.now,0,0,1,0,0⟩
  simp only [iX,iI] at h1
  have eU:=af bx b (some (bI.row Ct 10 [V.agg [V.int .i64 x.conn,V.int .i64 x.bk,V.int .i64 1,V.int .i64 x.call,V.int .i64 w.now,V.int .i64 0,V.int .i64 0,V.int .i64 1,V.int .i64 0,V.int .i64 0]]))
  generalize aA bx b (some (bI.row Ct 10 [V.agg [V.int .i64 x.conn,V.int .i64 x.bk,V.int .i64 1,V.int .i64 x.call,V.int .i64 w.now,V.int .i64 0,V.int .i64 0,V.int .i64 1,V.int .i64 0,V.int .i64 0]])) = bM at *
  have bg:=h1.fin
  have aq:=h1.row
  unfold gu at aq
  simp [go_sem,bg,eU,aq,lx,aX,iI,hy,iX]
  refine ey (.agg #[.int .i64 0,.int .i64 0,.int .i64 0,.int .i64 0,.int .i64 0,.int .i64 0,.int .i64 0,.int .i64 0,.int .i64 0,.int .i64 0]) h1.ak bg (news:=[iX c1]) wW F5 (by simp [go_sem,bP,iX,iI,pQ]) zg (by simp [go_sem]) (by decide) (by simp [F6]; omega) (by simp; omega) (by simp [go_sem]) fun v' bx' ha hm _=>?_
  have hn:=h1.Gl (f:=c1) (by omega) ha hm
  have hp : bx' n.p = some (.row sc 10 [gu n w]):=by rw [hm.other (by rw [h1.row]; simp) (h1.ak.ne h1.row (by decide)),h1.row]
  unfold gu at hp
  simp [go_sem,hp,ha.strip,ha.live,ha.cells,ha.okV,hm.fin,iI]
  exact aj (by simp [go_sem]) (.of hz.symm ⟨by simp [go_sem],{ n with cv:=v' },rfl,hn⟩)
theorem Ox {aC bx : aa} {n : RN} {w : RW} (h : WR aC n w bx) (x : Ev) (hx : x.bk < w.ah.length) (hl : w.ak.length <= 90000) :
 aw prog 128 [.ptr n.p 10 0 0,aX x] bx (fo aC n.p (pI w x)):=by
 refine N3 fun hf=>?_
 have aq:=h.row
 unfold gu at aq
 have cZ:=h.ah
 have e2 : w.ah.getD x.bk gx = w.ah[x.bk]:=by simp [hx]
 obtain ⟨z,hz⟩ : ∃ z,pI w x = z:=⟨_,rfl⟩
 rw [hz]
 unfold pI at hz
 rw [e2] at hz
 dsimp only at hz
 have hw:=h.ng _ _ (List.getElem?_eq_getElem hx)
 have Ow:=h.sm.2.2.2.2 _ (List.getElem_mem hx)
 have cI:=xv hw (by omega) x.call
 have gI:=oB w.ah[x.bk].au x.call
 simp [go_sem,N1,hf,aX,iI,aq,cZ,hx,eI,hw.strip,hw.live]
 refine ag cI ?_
 by_cases c1 : x.call ∈ w.ah[x.bk].au
 ·have k1:=gI.2 c1
  have k2 : ¬ sb w.ah[x.bk].au x.call < 0:=by omega
  rw [if_pos c1] at hz
  simp [go_sem,hf,k2]
  have hlen:=fun bx2=>fP (bx2:=bx2) (t:=100) h.ak wW
  simp [go_sem,h.ak.strip,h.ak.live] at hlen
  have AZ:=h.sm
  refine eP w.ak.length (u7 w.ak (fun c=>c.num == x.conn)) (fun j=>⟨79,bR [(0,.ptr n.p 10 0 0),(3,lx x),(5,.ptr n.bb 5 x.bk 0),(6,.int .i64 j)],bx⟩) (al (by simp [go_sem,lx,aX,iI])) (fun j hj hJ N hN=>?_) (fun hJ N=>?_)
  ·have hw:=bt (k:=j) (by omega)
   obtain ⟨b,hv,hb⟩:=h.ak.at (by simpa using by omega)
   rw [hv] at aq
   simp at aq
   rw [ke hj] at hN
   have hs:=fun hh=>any_some (p:=fun c : RC=>c.num == x.conn) hj hh
   by_cases c3 : w.ak[j].num = x.conn
   ·simp [go_sem,xg,hj,hf,hw,aq,hb,iX,iI,c3,lx,aX]
    exact aj (by simp [go_sem]) (.of (z':=(w,false)) (by rw [<- hz,hs (by simp [c3])]; rfl) ⟨by simp [go_sem],n,rfl,h⟩)
   ·simp [go_sem,xg,hj,hf,hw,aq,hb,iX,iI,c3,lx,aX]
    exact hN _ (by simp [c3]) (al (by simp [go_sem,lx,aX,iI]))
  ·have h0:=any_none hJ
   rw [h0] at hz
   simp [go_sem,xg,hf,aq,hlen,h.ak.strip,h.ak.live]
   refine Ge ?_
   simp [go_sem,AV,hf,cZ,hx,eI,iI,hw.strip,hw.live,lx,aX]
   refine iC (kJ hw (by omega) x.call) (mC hf _ _ _) ?_
   intro v' bx' fA
   have hm : eE (n.dv x.bk) v' bx bx':=.tz fA
   have ha:=bd.of fA
   have hn:=h.au hx (l:=aY w.ah[x.bk].au x.call) (by have:=List.length_filter_le (· != x.call) w.ah[x.bk].au; unfold aY; omega) ha hm
   obtain ⟨eU,lJ⟩:=h.DV hm hw
   have bg:=hm.fin
   simp only [eI,af,iI] at hn
   simp [go_sem,eU,hx,eI,ha.strip,ha.live,ha.cells,ha.okV,bg,iI,ar]
   have da:=hn.fin
   have fH:=hn.row
   unfold gu at fH
   simp only [] at fH
   generalize (aA bx' n.bb (some (bI.row xy 5 ((w.ah.mapIdx (eI n.dv n.wv)).set x.bk (V.agg [V.bool w.ah[x.bk].down,V.int .i64 w.ah[x.bk].gL,V.int .i64 w.ah[x.bk].aK,v',n.wv x.bk]))))) = bx2 at *
   simp [go_sem,da,fH,iI]
   intro b hb
   rw [if_neg (by simp)] at hz
   subst hz
   exact J5 hn x (by simpa using hl) hb _ (al (by simp [go_sem,lx,aX,iI,iX]))
 ·have k1 : sb w.ah[x.bk].au x.call < 0:=by
   rcases Int.lt_or_le (sb w.ah[x.bk].au x.call) 0 with h | h
   ·exact h
   ·exact absurd (gI.1 h) c1
  rw [if_neg c1] at hz
  simp [go_sem,hf,k1]
  exact aj (by simp [go_sem]) (.of hz.symm ⟨by simp [go_sem],n,rfl,h⟩)
def ly (w : RW) (x : Ev) : RW × Bool :=
 let b:=w.ah.getD x.bk gx
 if x.call ∈ b.waits \/ jj w x.call x.bk then
  match eQ w x.conn x.bk with
  | none=>(w.fault 4,true)
  | some i =>
    let c:=w.ak.getD i yn
    if c.st = 4 then (w.fault 4,true)
    else if c.st = 1 then (w.fault 1,true)
    else
     let m:=w.aL.getD x.bk DU
     let w1:=w.ai (fj w x) 9
     let w2:=w1.ai (decide (m.xu <= ck (w.now - c.born)) || (decide (c.st = 2) && decide (m.idle <= ck (w.now - c.since)))) 5
     ((w2.aO x.bk { b with waits:=aY b.waits x.call }).ba i { c with st:=1,call:=x.call,aU:=ck (c.aU + 1) },true)
 else (w,false)
theorem z7 {aC bx : aa} {n : RN} {w : RW} (h : WR aC n w bx) (x : Ev) (hx : x.bk < w.ah.length) {i : Nat} (hi : i < w.ak.length) {b : Nat} (hv : n.cv = .own b 10 0 w.ak.length) (s : St) (hs : je s ⟨131,bR [(3,lx x),(5,.ptr n.bb 5 x.bk 0),(6,.ptr b 10 i 0)],bx⟩) :
 pw prog Cp (fN prog [.tmp 4] (fo aC n.p ((w.aO x.bk { w.ah[x.bk] with waits:=aY w.ah[x.bk].waits x.call }).ba i { w.ak[i] with st:=1,call:=x.call,aU:=ck (w.ak[i].aU + 1) },true))) s:=by
 have hf:=h.fin
 have cZ:=h.ah
 have hw:=h.ik _ _ (List.getElem?_eq_getElem hx)
 have Ow:=h.sm.2.2.2.2 _ (List.getElem_mem hx)
 obtain ⟨z,hz⟩ : ∃ z,(((w.aO x.bk { w.ah[x.bk] with waits:=aY w.ah[x.bk].waits x.call }).ba i { w.ak[i] with st:=1,call:=x.call,aU:=ck (w.ak[i].aU + 1) },true) : RW × Bool) = z:=⟨_,rfl⟩
 rw [hz]
 refine jq hs ?_
 simp [go_sem]
 refine DJ ?_
 simp [go_sem,xh,hf,cZ,hx,eI,iI,hw.strip,hw.live,lx,aX]
 refine iC (kJ hw (by omega) x.call) (mC hf _ _ _) ?_
 intro v' bx' fA
 have hm : eE (n.wv x.bk) v' bx bx':=.tz fA
 have ha:=bd.of fA
 have hn:=h.waits hx (l:=aY w.ah[x.bk].waits x.call) (by have:=List.length_filter_le (· != x.call) w.ah[x.bk].waits; unfold aY; omega) ha hm
 obtain ⟨eU,lJ⟩:=h.DV hm hw
 have bg:=hm.fin
 simp only [eI,af,iI] at hn
 simp [go_sem,eU,hx,eI,ha.strip,ha.live,ha.cells,ha.okV,bg,iI,ar]
 have da:=hn.fin
 have c9:=hn.C0 hv
 generalize (aA bx' n.bb (some (bI.row xy 5 ((w.ah.mapIdx (eI n.dv n.wv)).set x.bk (V.agg [V.bool w.ah[x.bk].down,V.int .i64 w.ah[x.bk].gL,V.int .i64 w.ah[x.bk].aK,n.dv x.bk,v']))))) = bx2 at *
 simp only [] at c9
 simp [go_sem,da,c9,hi,iI,iX]
 refine ⟨by simp [jh,lj,mi,jE],?_⟩
 exact aj (by simp [go_sem]) (.of hz.symm ⟨by simp [go_sem],{ n with wv:=aA n.wv x.bk v' },rfl,hn.lp hv c9 i { w.ak[i] with st:=1,call:=x.call,aU:=ck (w.ak[i].aU + 1) }⟩)
theorem z8 {aC bx : aa} {n : RN} {w : RW} (h : WR aC n w bx) (x : Ev) (hx : x.bk < w.ah.length) (di : x.bk < w.aL.length) (hl : w.aG.length <= 60000) {i : Nat} (hi : i < w.ak.length) {b : Nat} (hv : n.cv = .own b 10 0 w.ak.length)
 {z : RW × Bool} (hz : z = (((w.ai (decide (w.aL[x.bk].xu <= ck (w.now - w.ak[i].born)) || (decide (w.ak[i].st = 2) && decide (w.aL[x.bk].idle <= ck (w.now - w.ak[i].since)))) 5).aO x.bk { w.ah[x.bk] with waits:=aY w.ah[x.bk].waits x.call }).ba i { w.ak[i] with st:=1,call:=x.call,aU:=ck (w.ak[i].aU + 1) },true))
 (s : St) (hs : je s ⟨131,bR [(0,.ptr n.p 10 0 0),(3,lx x),(5,.ptr n.bb 5 x.bk 0),(6,.ptr b 10 i 0)],bx⟩) :
 pw prog Cq (fN prog [.tmp 4] (fo aC n.p z)) s:=by
 have hf:=h.fin
 have aq:=h.row
 unfold gu at aq
 refine jq hs ?_
 simp [go_sem,hf,aq,di,bT,lx,aX,iI]
 intro b2 c9
 have h1 : WR aC n w (aA bx b2 (some (.row 111 4 [bT w.aL[x.bk]]))):=h.mono (C5 c9 _) ((ar _ _ _).2 hf)
 have BW:=af bx b2 (some (bI.row 111 4 [bT w.aL[x.bk]]))
 simp only [bT,iI] at h1 BW
 generalize aA bx b2 (some (bI.row 111 4 [V.agg [V.int .i64 w.aL[x.bk].max,V.int .i64 w.aL[x.bk].queue,V.int .i64 w.aL[x.bk].idle,V.int .i64 w.aL[x.bk].xu]])) = bM at *
 have bg:=h1.fin
 have fG:=h1.row
 unfold gu at fG
 have eU:=h1.C0 hv
 have jd : ∀ a : Int,IntKind.i64.wrap a = ck a:=fun a=>rfl
 by_cases c1 : w.aL[x.bk].xu <= ck (w.now - w.ak[i].born) <;> by_cases c2 : w.ak[i].st = 2 <;> by_cases c3 : w.aL[x.bk].idle <= ck (w.now - w.ak[i].since) <;> simp [go_sem,bg,fG,eU,BW,hi,iX,iI,jd,c1,c2,c3]
 all_goals first
  | (refine an (cH h1 5 (by omega)) ?_
     rintro r bx2 ⟨rfl,v',h2⟩
     have da:=h2.fin
     simp [go_sem,da]
     rw [hz]
     simp only [c1,c2,c3,decide_true,decide_false,Bool.true_or,Bool.or_true,Bool.and_true,Bool.true_and,Bool.or_self,RW.ai,if_true,Bool.false_or]
     exact z7 h2 x hx hi hv _ (al (by simp [go_sem,lx,aX,iI])))
  | (rw [hz]
     simp only [c1,c2,c3,decide_true,decide_false,Bool.false_or,Bool.and_false,Bool.false_and,Bool.or_self,RW.ai,Bool.false_eq_true,if_false]
     exact z7 h1 x hx hi hv _ (al (by simp [go_sem,lx,aX,iI])))
theorem J6 {aC bx : aa} {n : RN} {w : RW} (h : WR aC n w bx) (x : Ev) (hx : x.bk < w.ah.length) (di : x.bk < w.aL.length) (hl : w.aG.length <= 50000) :
 aw prog 129 [.ptr n.p 10 0 0,aX x] bx (fo aC n.p (ly w x)):=by
 refine N5 fun hf=>?_
 have aq:=h.row
 unfold gu at aq
 have cZ:=h.ah
 have e2 : w.ah.getD x.bk gx = w.ah[x.bk]:=by simp [hx]
 have e3 : w.aL.getD x.bk DU = w.aL[x.bk]:=by simp [di]
 obtain ⟨z,hz⟩ : ∃ z,ly w x = z:=⟨_,rfl⟩
 rw [hz]
 unfold ly at hz
 rw [e2] at hz
 dsimp only at hz
 have hw:=h.ik _ _ (List.getElem?_eq_getElem hx)
 have Ow:=h.sm.2.2.2.2 _ (List.getElem_mem hx)
 have cI:=xv hw (by omega) x.call
 have cM:=Gk h x.call x.bk
 have cT:=xw h x.conn x.bk
 have cO:=qL h x hx
 have gI:=oB w.ah[x.bk].waits x.call
 have evg : V.agg [V.int .i64 x.kind,V.int .i64 x.bk,V.int .i64 x.t,V.int .i64 x.call,V.int .i64 x.conn,V.int .i64 x.jQ,V.int .i64 x.n,V.bool x.yes] = aX x:=by simp [aX,iI]
 simp [go_sem,N4,hf,aX,iI,aq,cZ,hx,eI,hw.strip,hw.live]
 refine ag cI ?_
 by_cases c1 : x.call ∈ w.ah[x.bk].waits \/ jj w x.call x.bk = true
 ·rw [if_pos c1] at hz
  by_cases c2 : x.call ∈ w.ah[x.bk].waits
  all_goals first
   | (have k1:=gI.2 c2
      have k2 : ¬ sb w.ah[x.bk].waits x.call < 0:=by omega
      simp [go_sem,hf,k2]
      refine jI (.bool false) (by simp [go_sem]) ?_
      simp [go_sem,hf])
   | (have k1 : ¬ 0 <= sb w.ah[x.bk].waits x.call:=fun h=>c2 (gI.1 h)
      have k2 : sb w.ah[x.bk].waits x.call < 0:=by omega
      have Ae:=c1.resolve_left c2
      rw [Ae] at cM
      simp [go_sem,hf,k2]
      refine dn cM (by simp) (by simp [go_sem]) ?_
      simp [go_sem,hf])
  all_goals (
   cases iH : eQ w x.conn x.bk with
   | none =>
     rw [iH] at cT hz
     dsimp only at hz
     unfold gh at cT
     refine ag cT ?_
     simp [go_sem,hf]
     refine an (cH h 4 (by omega)) ?_
     rintro r bM ⟨rfl,v',h1⟩
     have bg:=h1.fin
     simp [go_sem,bg]
     exact aj (by simp [go_sem]) (.of hz.symm ⟨by simp [go_sem],{ n with fv:=v' },rfl,h1⟩)
   | some i =>
     have hi:=pA iH
     have e1 : w.ak.getD i yn = w.ak[i]:=by simp [hi]
     rw [iH] at cT hz
     dsimp only at hz
     rw [e1,e3] at hz
     obtain ⟨b,hv,hb⟩:=h.ak.at (by simpa using by omega)
     simp at hv
     unfold gh Ac at cT
     rw [hv] at cT
     simp at cT
     refine ag cT ?_
     by_cases s4 : w.ak[i].st = 4
     ·rw [if_pos s4] at hz
      simp [go_sem,hf,aq,hb,iX,iI,hi,s4]
      refine an (cH h 4 (by omega)) ?_
      rintro r bM ⟨rfl,v',h1⟩
      have bg:=h1.fin
      simp [go_sem,bg]
      exact aj (by simp [go_sem]) (.of hz.symm ⟨by simp [go_sem],{ n with fv:=v' },rfl,h1⟩)
     rw [if_neg s4] at hz
     by_cases s1 : w.ak[i].st = 1
     ·rw [if_pos s1] at hz
      simp [go_sem,hf,aq,hb,iX,iI,hi,s1]
      refine an (cH h 1 (by omega)) ?_
      rintro r bM ⟨rfl,v',h1⟩
      have bg:=h1.fin
      simp [go_sem,bg]
      exact aj (by simp [go_sem]) (.of hz.symm ⟨by simp [go_sem],{ n with fv:=v' },rfl,h1⟩)
     rw [if_neg s1] at hz
     simp [go_sem,hf,aq,hb,iX,iI,hi,s4,s1,lx,aX]
     rw [evg]
     refine ag cO ?_
     cases ho : fj w x
     ·rw [ho] at hz
      simp [go_sem,hf]
      exact z8 h x hx di (by omega) hi hv hz.symm _ (al (by simp [go_sem,lx,aX,iI]))
     ·rw [ho] at hz
      simp [go_sem,hf]
      refine an (cH h 9 (by omega)) ?_
      rintro r bM ⟨rfl,v1,h1⟩
      have bg:=h1.fin
      simp [go_sem,bg]
      exact z8 h1 x hx di (by simp; omega) hi hv hz.symm _ (al (by simp [go_sem,lx,aX,iI])))
 ·rw [if_neg c1] at hz
  obtain ⟨c2,c3⟩:=not_or.1 c1
  have k1 : ¬ 0 <= sb w.ah[x.bk].waits x.call:=fun h=>c2 (gI.1 h)
  have k2 : sb w.ah[x.bk].waits x.call < 0:=by omega
  rw [Bool.not_eq_true] at c3
  rw [c3] at cM
  simp [go_sem,hf,k2]
  refine dn cM (by simp) (by simp [go_sem]) ?_
  simp [go_sem,hf]
  exact aj (by simp [go_sem]) (.of hz.symm ⟨by simp [go_sem],n,rfl,h⟩)
def qZ (b : RB) : Bool:=decide (0 < b.au.length + b.waits.length)
def pJ (c : RC) : Bool:=c.st != 5
def vy (r : RR) : Bool:=!r.ended
def tA (w : RW) : Bool:=w.ah.any qZ || w.ak.any pJ || w.aD.any vy
def fQ (w : RW) (x : Ev) : RW × Bool :=
 if x.kind = 17 then
  if dr w x.call then
   let i:=(dp w x.call).getD 0
   (w.dO i { w.aD.getD i z1 with ended:=true },true)
  else (w,false)
 else if x.kind = 18 then if w.stop then (w,false) else ({ w with stop:=true },true)
 else if w.stop then (w.ai (tA w) 11,true) else (w,false)
theorem tB {α : Type} (l : List α) (p : α -> Bool) {j : Nat} (hj : j < l.length) : (l.take (j + 1)).any p = ((l.take j).any p || p l[j]):=by
 rw [List.take_succ_eq_append_getElem hj,List.any_append]
 simp
theorem G2 {aC bx : aa} {n : RN} {w : RW} (h : WR aC n w bx) (x : Ev) (bi : Int) (hl : w.aG.length <= 50000) :
 aw prog 134 [.ptr n.p 10 0 0,dL x bi] bx (fo aC n.p (fQ w x)):=by
 refine NA fun hf=>?_
 have aq:=h.row
 unfold gu at aq
 have cZ:=h.ah
 have AZ:=h.sm
 obtain ⟨z,hz⟩ : ∃ z,fQ w x = z:=⟨_,rfl⟩
 rw [hz]
 unfold fQ at hz
 by_cases k1 : x.kind = 17
 ·have cR:=xx h x.call
  have cF:=oC h x.call
  rw [if_pos k1] at hz
  simp [go_sem,DK,hf,dL,iI,k1]
  cases hre : dr w x.call
  ·rw [hre] at cR hz
   refine ag cR ?_
   simp [go_sem,hf]
   exact aj (by simp [go_sem]) (.of hz.symm ⟨by simp [go_sem],n,rfl,h⟩)
  ·obtain ⟨i,hi,n7⟩:=oI hre
   rw [hre] at cR
   rw [hre,hi] at hz
   rw [hi] at cF
   obtain ⟨b,hv,hb⟩:=h.aD.at (by simpa using by omega)
   simp at hv
   unfold gh Ac at cF
   rw [hv] at cF
   simp at cF
   have e1 : w.aD.getD i z1 = w.aD[i]:=by simp [n7]
   simp only [if_true,Option.getD_some,e1] at hz
   refine ag cR ?_
   simp [go_sem,hf]
   refine ag cF ?_
   simp [go_sem,hf,hb,n7,mB,iI]
   exact aj (by simp [go_sem]) (.of hz.symm ⟨by simp [go_sem],n,rfl,h.Ba hv hb i { w.aD[i] with ended:=true }⟩)
 rw [if_neg k1] at hz
 by_cases k2 : x.kind = 18
 ·rw [if_pos k2] at hz
  cases iq : w.stop
  ·rw [iq] at hz aq
   simp [go_sem,DK,hf,dL,iI,k2,aq]
   exact aj (by simp [go_sem]) (.of hz.symm ⟨by simp [go_sem],n,rfl,by simpa [gu,iI] using h.world { w with stop:=true } rfl rfl rfl rfl⟩)
  ·rw [iq] at hz aq
   simp [go_sem,DK,hf,dL,iI,k2,aq]
   exact aj (by simp [go_sem]) (.of hz.symm ⟨by simp [go_sem],n,rfl,h⟩)
 rw [if_neg k2] at hz
 cases iq : w.stop
 ·rw [iq] at hz aq
  simp [go_sem,DK,hf,dL,iI,k1,k2,aq]
  exact aj (by simp [go_sem]) (.of hz.symm ⟨by simp [go_sem],n,rfl,h⟩)
 rw [iq] at hz aq
 simp only [if_true] at hz
 simp [go_sem,DK,hf,dL,iI,k1,k2,aq]
 refine ct w.ah.length (fun j=>⟨115,bR [(0,.ptr n.p 10 0 0),(5,.bool ((w.ah.take j).any qZ)),(6,.int .i64 j)],bx⟩) (al (by simp [go_sem])) (fun j hj N hN=>?_) (fun N=>?_)
 ·have hw:=bt (k:=j) (by omega)
  have hd:=h.ng _ _ (List.getElem?_eq_getElem hj)
  have hq:=h.ik _ _ (List.getElem?_eq_getElem hj)
  have Ku:=AZ.2.2.2.2 _ (List.getElem_mem hj)
  have L1:=fun bx2=>fP (bx2:=bx2) (t:=60) hd mA
  have hlq:=fun bx2=>fP (bx2:=bx2) (t:=60) hq mA
  simp [go_sem,hd.strip,hd.live] at L1
  simp [go_sem,hq.strip,hq.live] at hlq
  rw [tB _ _ hj] at hN
  have hs : IntKind.i64.wrap ((w.ah[j].au.length : Int) + w.ah[j].waits.length) = ((w.ah[j].au.length + w.ah[j].waits.length : Nat) : Int):=by rw [ij (by omega)]; omega
  have hp : decide ((0 : Int) < (w.ah[j].au.length : Int) + w.ah[j].waits.length) = decide (0 < w.ah[j].au.length + w.ah[j].waits.length):=decide_eq_decide.2 (by omega)
  cases ha : (w.ah.take j).any qZ
  ·rw [ha] at hN
   simp only [Bool.false_or,qZ] at hN
   simp [go_sem,xk,hj,hf,hw,aq,cZ,eI,iI,L1,hlq,hd.strip,hd.live,hq.strip,hq.live,hs]
   rw [hp]
   exact hN _ (al (by simp [go_sem]))
  ·rw [ha] at hN
   simp only [Bool.true_or] at hN
   simp [go_sem,xk,hj,hf,hw,aq,cZ,eI,iI]
   exact hN _ (al (by simp [go_sem]))
 rw [List.take_length]
 simp [go_sem,xk,hf,aq]
 have Ri:=fun bx2=>fP (bx2:=bx2) (t:=100) h.ak wW
 simp [go_sem,h.ak.strip,h.ak.live] at Ri
 have hlr:=fun bx2=>fP (bx2:=bx2) (t:=101) h.aD F4
 simp [go_sem,h.aD.strip,h.aD.live] at hlr
 obtain ⟨B,hB⟩ : ∃ B,w.ah.any qZ = B:=⟨_,rfl⟩
 rw [hB]
 refine ct w.ak.length (fun j=>⟨115,bR [(0,.ptr n.p 10 0 0),(5,.bool (B || (w.ak.take j).any pJ)),(7,.int .i64 j)],bx⟩) (al (by simp [go_sem])) (fun j hj N hN=>?_) (fun N=>?_)
 ·have hw:=bt (k:=j) (by omega)
  obtain ⟨b,hv,hb⟩:=h.ak.at (by simpa using by omega)
  rw [hv] at aq
  simp at aq
  rw [tB _ _ hj,<- Bool.or_assoc] at hN
  cases ha : (B || (w.ak.take j).any pJ)
  ·rw [ha] at hN
   simp only [Bool.false_or,pJ] at hN
   by_cases c5 : w.ak[j].st = 5
   all_goals (
    simp [go_sem,xl,hj,hf,hw,aq,hb,iX,iI,c5]
    exact hN _ (al (by simp [go_sem,c5])))
  ·rw [ha] at hN
   simp only [Bool.true_or] at hN
   simp [go_sem,xl,hj,hf,hw,aq,hb,iX,iI]
   exact hN _ (al (by simp [go_sem]))
 rw [List.take_length]
 simp [go_sem,xl,hf,aq,Ri,h.ak.strip,h.ak.live]
 obtain ⟨C,hC⟩ : ∃ C,(B || w.ak.any pJ) = C:=⟨_,rfl⟩
 rw [hC]
 refine ct w.aD.length (fun j=>⟨115,bR [(0,.ptr n.p 10 0 0),(5,.bool (C || (w.aD.take j).any vy)),(8,.int .i64 j)],bx⟩) (al (by simp [go_sem])) (fun j hj N hN=>?_) (fun N=>?_)
 ·have hw:=bt (k:=j) (by omega)
  obtain ⟨b,hv,hb⟩:=h.aD.at (by simpa using by omega)
  rw [hv] at aq
  simp at aq
  rw [tB _ _ hj,<- Bool.or_assoc] at hN
  cases ha : (C || (w.aD.take j).any vy)
  ·rw [ha] at hN
   simp only [Bool.false_or,vy] at hN
   simp [go_sem,tq,hj,hf,hw,aq,hb,mB,iI]
   exact hN _ (al (by simp [go_sem]))
  ·rw [ha] at hN
   simp only [Bool.true_or] at hN
   simp [go_sem,tq,hj,hf,hw,aq,hb,mB,iI]
   exact hN _ (al (by simp [go_sem]))
 rw [List.take_length]
 have hD : (C || w.aD.any vy) = tA w:=by unfold tA; rw [<- hC,<- hB]
 rw [hD]
 cases hlw : tA w
 ·rw [hlw] at hz
  simp [go_sem,tq,hf,aq,hlr,h.aD.strip,h.aD.live]
  exact aj (by simp [go_sem]) (.of hz.symm ⟨by simp [go_sem],n,rfl,h⟩)
 ·rw [hlw] at hz
  simp [go_sem,tq,hf,aq,hlr,h.aD.strip,h.aD.live]
  refine an (cH h 11 (by omega)) ?_
  rintro r bM ⟨rfl,v',h1⟩
  have bg:=h1.fin
  simp [go_sem,bg]
  exact aj (by simp [go_sem]) (.of hz.symm ⟨by simp [go_sem],{ n with fv:=v' },rfl,h1⟩)
theorem xG {aC bx : aa} {n : RN} {w : RW} (h : WR aC n w bx) (x : Ev) (hx : x.bk < w.ah.length) (hl : w.aG.length <= 50000) (di : x.bk < w.aL.length) (qS : ∀ b,b ∈ w.ah -> b.waits.length <= 90000 /\ b.au.length <= 90000) (hk : x.kind = 3 \/ x.kind = 4 \/ x.kind = 5 \/ x.kind = 6) :
 aw prog 127 [.ptr n.p 10 0 0,aX x] bx (fo aC n.p (er w x)):=by
 rcases hk with hk | hk | hk | hk
 ·exact J0 h x hx hl di qS hk
 ·exact J1 h x hx hk
 ·exact J3 h x hx hl di qS hk
 ·exact J2 h x hx hk
def js (w : RW) (x : Ev) : RW × Bool :=
 if x.kind = 1 then (if (dp w x.call).isSome || w.stop then (w,false) else ({ w with aD:=w.aD ++ [⟨x.call,x.yes,0,0,0,false⟩] },true))
 else if x.kind = 2 then qY w x
 else if x.kind = 3 \/ x.kind = 4 \/ x.kind = 5 \/ x.kind = 6 then er w x
 else if x.kind = 7 then pI w x
 else if x.kind = 8 then ly w x
 else if x.kind = 9 \/ x.kind = 10 then (rJ w x,true)
 else if x.kind = 11 then (match ku w x with | none=>(w,false) | some i=>(w.ba i { w.ak.getD i yn with st:=if x.yes then 3 else 4,call:=0 },true))
 else if x.kind = 12 \/ x.kind = 13 then lE w x
 else if x.kind = 14 then (w.aO x.bk { w.ah.getD x.bk gx with down:=!x.yes },true)
 else if x.kind = 15 then (w.aO x.bk { w.ah.getD x.bk gx with gL:=x.n,aK:=0 },true)
 else if x.kind = 16 then jz w x
 else fQ w x
def C6 (w : RW) : Prop:=∀ c,c ∈ w.ak -> c.st = 1 -> ∃ j,dp w c.call = some j
theorem G3 {w : RW} {x : Ev} {i : Nat} (h : ku w x = some i) : ∃ c,w.ak[i]? = some c /\ c.st = 1 /\ c.call = x.call:=by
 unfold ku at h
 split at h
 ·split at h
  ·rename_i c hc
   split at h
   ·rename_i hh
    injection h with h
    subst h
    exact ⟨c,hc,hh⟩
   ·cases h
  ·cases h
 ·cases h
theorem C6.own {w : RW} (h : C6 w) {x : Ev} {i : Nat} (hi : ku w x = some i) : ∃ j,dp w x.call = some j:=by
 obtain ⟨c,hc,h1,h2⟩:=G3 hi
 rw [<- h2]
 exact h c (List.mem_of_getElem? hc) h1
theorem Oy {aC bx : aa} {n : RN} {w : RW} (h : WR aC n w bx) (x : Ev) (bi : Int) (hl : w.aG.length <= 50000) (jn : w.ak.length <= 90000) (hrl : w.aD.length <= 90000) (qS : ∀ b,b ∈ w.ah -> b.waits.length <= 90000 /\ b.au.length <= 90000) (Z6 : C6 w)
 (dV : 1 <= x.kind) (fJ : x.kind <= 19) (hb : 2 <= x.kind -> x.kind <= 16 -> bi = x.bk /\ x.bk < w.ah.length /\ x.bk < w.aL.length) :
 aw prog 91 [.ptr n.p 10 0 0,dL x bi] bx (fo aC n.p (js w x)):=by
 refine V4 fun hf=>?_
 have aq:=h.row
 unfold gu at aq
 have cZ:=h.ah
 obtain ⟨z,hz⟩ : ∃ z,js w x = z:=⟨_,rfl⟩
 rw [hz]
 unfold js at hz
 by_cases k1 : x.kind = 1
 ·have cF:=oC h x.call
  rw [if_pos k1] at hz
  simp [go_sem,ym,hf,dL,iI,k1]
  cases iH : dp w x.call with
  | some i =>
    have n7:=nh iH
    rw [iH] at cF hz
    simp only [Option.isSome_some,Bool.true_or,if_true] at hz
    obtain ⟨b,hv,hb⟩:=h.aD.at (by simpa using by omega)
    simp at hv
    unfold gh Ac at cF
    rw [hv] at cF
    simp at cF
    refine ag cF ?_
    simp [go_sem,hf]
    exact aj (by simp [go_sem]) (.of hz.symm ⟨by simp [go_sem],n,rfl,h⟩)
  | none =>
    rw [iH] at cF hz
    unfold gh at cF
    simp only [Option.isSome_none,Bool.false_or] at hz
    refine ag cF ?_
    cases iq : w.stop
    ·rw [iq] at hz aq
     simp [go_sem,hf,aq]
     refine ey (.agg #[.int .i64 0,.bool false,.int .i64 0,.int .i64 0,.int .i64 0,.bool false]) h.aD hf (news:=[mB ⟨x.call,x.yes,0,0,0,false⟩]) F4 MZ (by simp [go_sem,bP,mB,iI]) FF (by simp [go_sem]) (by decide) (by simp [Na]; omega) (by simp; omega) (by simp [go_sem]) fun v' bx' ha hm _=>?_
     have hn:=h.NW (f:=⟨x.call,x.yes,0,0,0,false⟩) (by omega) ha hm
     have hp : bx' n.p = some (.row sc 10 [gu n w]):=by rw [hm.other (by rw [h.row]; simp) (h.aD.ne h.row (by decide)),h.row]
     unfold gu at hp
     rw [iq] at hp
     simp [go_sem,hp,ha.strip,ha.live,ha.cells,ha.okV,hm.fin,iI]
     exact aj (by simp [go_sem]) (.of hz.symm ⟨by simp [go_sem],{ n with rv:=v' },rfl,by simpa [gu,iq,iI] using hn⟩)
    ·rw [iq] at hz aq
     simp [go_sem,hf,aq]
     exact aj (by simp [go_sem]) (.of hz.symm ⟨by simp [go_sem],n,rfl,h⟩)
 rw [if_neg k1] at hz
 by_cases k2 : x.kind <= 16
 ·obtain ⟨rfl,hx,di⟩:=hb (by omega) k2
  have evg : ∀ k,x.kind = k -> V.agg [V.int .i64 k,V.int .i64 x.bk,V.int .i64 x.t,V.int .i64 x.call,V.int .i64 x.conn,V.int .i64 x.jQ,V.int .i64 x.n,V.bool x.yes] = aX x:=fun k hk=>by simp [aX,iI,hk]
  have jm : x.kind = 2 \/ x.kind = 3 \/ x.kind = 4 \/ x.kind = 5 \/ x.kind = 6 \/ x.kind = 7 \/ x.kind = 8 \/ x.kind = 12 \/ x.kind = 13 \/ x.kind = 16 \/ x.kind = 9 \/ x.kind = 10 \/ x.kind = 11 \/ x.kind = 14 \/ x.kind = 15:=by omega
  rcases jm with hk | hk | hk | hk | hk | hk | hk | hk | hk | hk | hk | hk | hk | hk | hk
  ·have cN:=Ov h x hx hl
   have jZ : qY w x = z:=by rw [<- hz]; simp [hk]
   rw [jZ] at cN
   simp [go_sem,ym,hf,dL,iI,hk]
   rw [evg _ hk]
   refine an cN ?_
   rintro r bM ⟨rfl,n',hp,h1⟩
   have bg:=h1.fin
   simp [go_sem,bg]
   exact aj (by simp [go_sem]) (.of rfl ⟨by simp [go_sem],n',hp,h1⟩)
  ·have cN:=xG h x hx hl di qS (by omega)
   have jZ : er w x = z:=by rw [<- hz]; simp [hk]
   rw [jZ] at cN
   simp [go_sem,ym,hf,dL,iI,hk]
   rw [evg _ hk]
   refine an cN ?_
   rintro r bM ⟨rfl,n',hp,h1⟩
   have bg:=h1.fin
   simp [go_sem,bg]
   exact aj (by simp [go_sem]) (.of rfl ⟨by simp [go_sem],n',hp,h1⟩)
  ·have cN:=xG h x hx hl di qS (by omega)
   have jZ : er w x = z:=by rw [<- hz]; simp [hk]
   rw [jZ] at cN
   simp [go_sem,ym,hf,dL,iI,hk]
   rw [evg _ hk]
   refine an cN ?_
   rintro r bM ⟨rfl,n',hp,h1⟩
   have bg:=h1.fin
   simp [go_sem,bg]
   exact aj (by simp [go_sem]) (.of rfl ⟨by simp [go_sem],n',hp,h1⟩)
  ·have cN:=xG h x hx hl di qS (by omega)
   have jZ : er w x = z:=by rw [<- hz]; simp [hk]
   rw [jZ] at cN
   simp [go_sem,ym,hf,dL,iI,hk]
   rw [evg _ hk]
   refine an cN ?_
   rintro r bM ⟨rfl,n',hp,h1⟩
   have bg:=h1.fin
   simp [go_sem,bg]
   exact aj (by simp [go_sem]) (.of rfl ⟨by simp [go_sem],n',hp,h1⟩)
  ·have cN:=xG h x hx hl di qS (by omega)
   have jZ : er w x = z:=by rw [<- hz]; simp [hk]
   rw [jZ] at cN
   simp [go_sem,ym,hf,dL,iI,hk]
   rw [evg _ hk]
   refine an cN ?_
   rintro r bM ⟨rfl,n',hp,h1⟩
   have bg:=h1.fin
   simp [go_sem,bg]
   exact aj (by simp [go_sem]) (.of rfl ⟨by simp [go_sem],n',hp,h1⟩)
  ·have cN:=Ox h x hx jn
   have jZ : pI w x = z:=by rw [<- hz]; simp [hk]
   rw [jZ] at cN
   simp [go_sem,ym,hf,dL,iI,hk]
   rw [evg _ hk]
   refine an cN ?_
   rintro r bM ⟨rfl,n',hp,h1⟩
   have bg:=h1.fin
   simp [go_sem,bg]
   exact aj (by simp [go_sem]) (.of rfl ⟨by simp [go_sem],n',hp,h1⟩)
  ·have cN:=J6 h x hx di hl
   have jZ : ly w x = z:=by rw [<- hz]; simp [hk]
   rw [jZ] at cN
   simp [go_sem,ym,hf,dL,iI,hk]
   rw [evg _ hk]
   refine an cN ?_
   rintro r bM ⟨rfl,n',hp,h1⟩
   have bg:=h1.fin
   simp [go_sem,bg]
   exact aj (by simp [go_sem]) (.of rfl ⟨by simp [go_sem],n',hp,h1⟩)
  ·have cN:=G0 h x hl
   have jZ : lE w x = z:=by rw [<- hz]; simp [hk]
   rw [jZ] at cN
   simp [go_sem,ym,hf,dL,iI,hk]
   rw [evg _ hk]
   refine an cN ?_
   rintro r bM ⟨rfl,n',hp,h1⟩
   have bg:=h1.fin
   simp [go_sem,bg]
   exact aj (by simp [go_sem]) (.of rfl ⟨by simp [go_sem],n',hp,h1⟩)
  ·have cN:=G0 h x hl
   have jZ : lE w x = z:=by rw [<- hz]; simp [hk]
   rw [jZ] at cN
   simp [go_sem,ym,hf,dL,iI,hk]
   rw [evg _ hk]
   refine an cN ?_
   rintro r bM ⟨rfl,n',hp,h1⟩
   have bg:=h1.fin
   simp [go_sem,bg]
   exact aj (by simp [go_sem]) (.of rfl ⟨by simp [go_sem],n',hp,h1⟩)
  ·have cN:=Gz h x hx
   have jZ : jz w x = z:=by rw [<- hz]; simp [hk]
   rw [jZ] at cN
   simp [go_sem,ym,hf,dL,iI,hk]
   rw [evg _ hk]
   refine an cN ?_
   rintro r bM ⟨rfl,n',hp,h1⟩
   have bg:=h1.fin
   simp [go_sem,bg]
   exact aj (by simp [go_sem]) (.of rfl ⟨by simp [go_sem],n',hp,h1⟩)
  ·have cN:=Lf h x hl (fun i hi _=>Z6.own hi)
   have jZ : z = (rJ w x,true):=by rw [<- hz]; simp [hk]
   simp [go_sem,ym,hf,dL,iI,hk]
   rw [evg _ hk]
   refine an cN ?_
   rintro r bM ⟨rfl,n',hp,h1⟩
   have bg:=h1.fin
   simp [go_sem,bg]
   exact aj (by simp [go_sem]) (.of jZ ⟨by simp [go_sem],n',hp,h1⟩)
  ·have cN:=Lf h x hl (fun i hi _=>Z6.own hi)
   have jZ : z = (rJ w x,true):=by rw [<- hz]; simp [hk]
   simp [go_sem,ym,hf,dL,iI,hk]
   rw [evg _ hk]
   refine an cN ?_
   rintro r bM ⟨rfl,n',hp,h1⟩
   have bg:=h1.fin
   simp [go_sem,bg]
   exact aj (by simp [go_sem]) (.of jZ ⟨by simp [go_sem],n',hp,h1⟩)
  ·have cO:=KX h x
   have jZ : z = (match ku w x with | none=>(w,false) | some i=>(w.ba i { w.ak.getD i yn with st:=if x.yes then 3 else 4,call:=0 },true)):=by rw [<- hz]; simp [hk]
   simp [go_sem,ym,hf,dL,iI,hk]
   rw [evg _ hk]
   cases iH : ku w x with
   | none =>
     rw [iH] at cO jZ
     dsimp only at jZ
     unfold gh at cO
     refine ag cO ?_
     simp [go_sem,hf]
     exact aj (by simp [go_sem]) (.of jZ ⟨by simp [go_sem],n,rfl,h⟩)
   | some i =>
     have hi:=(vw iH).2
     have e1 : w.ak.getD i yn = w.ak[i]:=by simp [hi]
     rw [iH] at cO jZ
     dsimp only at jZ
     rw [e1] at jZ
     obtain ⟨b,hv,hb⟩:=h.ak.at (by simpa using by omega)
     simp at hv
     unfold gh Ac at cO
     rw [hv] at cO
     simp at cO
     refine ag cO ?_
     cases hy : x.yes
     ·rw [hy] at jZ
      simp [go_sem,hf,hb,iX,iI,hi,hy,aX]
      exact aj (by simp [go_sem]) (.of jZ ⟨by simp [go_sem],n,rfl,h.lp hv hb i { w.ak[i] with st:=4,call:=0 }⟩)
     ·rw [hy] at jZ
      simp only [if_true] at jZ
      simp [go_sem,hf,hb,iX,iI,hi,hy,aX]
      exact aj (by simp [go_sem]) (.of jZ ⟨by simp [go_sem],n,rfl,h.lp hv hb i { w.ak[i] with st:=3,call:=0 }⟩)
  ·have gW : ∀ b,w.ah[x.bk]? = some b -> w.ah[x.bk].au = b.au /\ w.ah[x.bk].waits = b.waits:=fun b hb=>by
    rw [List.getElem?_eq_getElem hx] at hb
    injection hb with hb
    rw [hb]
    exact ⟨rfl,rfl⟩
   have e2 : w.ah.getD x.bk gx = w.ah[x.bk]:=by simp [hx]
   have jZ : z = (w.aO x.bk { w.ah[x.bk] with down:=!x.yes },true):=by rw [<- hz,<- e2]; simp [hk]
   simp [go_sem,ym,hf,dL,iI,hk,aq,cZ,hx,eI]
   exact aj (by simp [go_sem]) (.of jZ ⟨by simp [go_sem],n,rfl,h.oD x.bk { w.ah[x.bk] with down:=!x.yes } gW⟩)
  ·have gW : ∀ b,w.ah[x.bk]? = some b -> w.ah[x.bk].au = b.au /\ w.ah[x.bk].waits = b.waits:=fun b hb=>by
    rw [List.getElem?_eq_getElem hx] at hb
    injection hb with hb
    rw [hb]
    exact ⟨rfl,rfl⟩
   have e2 : w.ah.getD x.bk gx = w.ah[x.bk]:=by simp [hx]
   have jZ : z = (w.aO x.bk { w.ah[x.bk] with gL:=x.n,aK:=0 },true):=by rw [<- hz,<- e2]; simp [hk]
   simp [go_sem,ym,hf,dL,iI,hk,aq,cZ,hx,eI]
   refine ⟨by simp [jh,lj,mi,jE],?_⟩
   exact aj (by simp [go_sem]) (.of jZ ⟨by simp [go_sem],n,rfl,h.oD x.bk { w.ah[x.bk] with gL:=x.n,aK:=0 } gW⟩)
 ·have evg : ∀ k,x.kind = k -> V.agg [V.int .i64 k,V.int .i64 bi,V.int .i64 x.t,V.int .i64 x.call,V.int .i64 x.conn,V.int .i64 x.jQ,V.int .i64 x.n,V.bool x.yes] = dL x bi:=fun k hk=>by simp [dL,iI,hk]
  have cN:=G2 h x bi hl
  have jZ : fQ w x = z:=by
   rw [<- hz,if_neg (by omega),if_neg (by omega),if_neg (by omega),if_neg (by omega),if_neg (by omega),if_neg (by omega),if_neg (by omega),if_neg (by omega),if_neg (by omega),if_neg (by omega)]
  rw [jZ] at cN
  have jm : x.kind = 17 \/ x.kind = 18 \/ x.kind = 19:=by omega
  rcases jm with hk | hk | hk
  all_goals (
   simp [go_sem,ym,hf,dL,iI,hk]
   rw [evg _ hk]
   refine an cN ?_
   rintro r bM ⟨rfl,n',hp,h1⟩
   have bg:=h1.fin
   simp [go_sem,bg]
   exact aj (by simp [go_sem]) (.of rfl ⟨by simp [go_sem],n',hp,h1⟩))
def oJ (x : Int × Int) : List (Int × Int) -> List (Int × Int)
 | []=>[x]
 | y :: l=>if x.1 < y.1 then x :: y :: l else y :: oJ x l
def dF (l : List (Int × Int)) : List (Int × Int):=l.foldl (fun a x=>oJ x a) []
theorem tC (x : Int × Int) : ∀ (B C : List (Int × Int)),(∀ y,y ∈ B -> y.1 <= x.1) -> (∀ y,y ∈ C -> x.1 < y.1) -> oJ x (B ++ C) = B ++ x :: C
 | [],[],_,_=>rfl
 | [],y :: C,_,h=>by simp [oJ,h y (by simp)]
 | y :: B,C,h1,h2=>by
   have h:=h1 y (by simp)
   simp only [List.cons_append,oJ,if_neg (show ¬ x.1 < y.1 by omega)]
   rw [tC x B C (fun z hz=>h1 z (by simp [hz])) h2]
theorem qq (x : Int × Int) : ∀ l : List (Int × Int),(oJ x l).Perm (x :: l)
 | []=>.refl _
 | y :: l=>by
   unfold oJ
   split
   ·exact .refl _
   ·exact ((qq x l).cons y).trans (.swap x y l)
theorem re (x : Int × Int) : ∀ l : List (Int × Int),l.Pairwise (fun a b=>a.1 <= b.1) -> (oJ x l).Pairwise (fun a b=>a.1 <= b.1)
 | [],_=>List.pairwise_singleton _ _
 | y :: l,h=>by
   rw [List.pairwise_cons] at h
   unfold oJ
   split
   ·rename_i dt
    rw [List.pairwise_cons,List.pairwise_cons]
    refine ⟨fun z hz=>?_,h.1,h.2⟩
    rcases List.mem_cons.1 hz with rfl | hz
    ·omega
    ·have:=h.1 z hz; omega
   ·rename_i dt
    rw [List.pairwise_cons]
    refine ⟨fun z hz=>?_,re x l h.2⟩
    rcases List.mem_cons.1 ((qq x l).mem_iff.1 hz) with rfl | hz
    ·omega
    ·exact h.1 z hz
theorem DW (l : List (Int × Int)) (x : Int × Int) : dF (l ++ [x]) = oJ x (dF l):=by unfold dF; rw [List.foldl_append]; rfl
theorem xH : ∀ (l acc : List (Int × Int)),acc.Pairwise (fun a b=>a.1 <= b.1) -> (l.foldl (fun a x=>oJ x a) acc).Perm (acc ++ l) /\ (l.foldl (fun a x=>oJ x a) acc).Pairwise (fun a b=>a.1 <= b.1)
 | [],acc,h=>⟨by simp,h⟩
 | x :: l,acc,h=>by
   obtain ⟨h1,h2⟩:=xH l (oJ x acc) (re x acc h)
   refine ⟨?_,h2⟩
   refine h1.trans (((qq x acc).append_right l).trans ?_)
   simpa using (List.perm_middle (a:=x) (l₁:=acc) (l₂:=l)).symm
theorem qs (l : List (Int × Int)) : (dF l).Perm l:=by unfold dF; simpa using (xH l [] .nil).1
theorem mL (l : List (Int × Int)) : (dF l).Pairwise (fun a b=>a.1 <= b.1):=(xH l [] .nil).2
theorem kN (l : List (Int × Int)) : (dF l).length = l.length:=(qs l).length_eq
def oR (A M : List (Int × Int)) (x : Int × Int) (D : List (Int × Int)) (j : Nat) : List (Int × Int):=A ++ (M.take (M.length - j) ++ (x :: (M.drop (M.length - j) ++ D)))
theorem G4 (A M : List (Int × Int)) (x : Int × Int) (D : List (Int × Int)) : oR A M x D 0 = A ++ (M ++ (x :: D)):=by simp [oR]
theorem C7 (A M : List (Int × Int)) (x : Int × Int) (D : List (Int × Int)) (j : Nat) : (oR A M x D j).length = A.length + M.length + 1 + D.length:=by
 simp [oR]; omega
theorem G5 (A M : List (Int × Int)) (x : Int × Int) (D : List (Int × Int)) {j : Nat} (hj : j <= M.length) : (oR A M x D j)[A.length + M.length - j]? = some x:=by
 unfold oR
 rw [List.getElem?_append_right (by omega),List.getElem?_append_right (by simp; omega)]
 have : A.length + M.length - j - A.length - (M.take (M.length - j)).length = 0:=by simp; omega
 rw [this]
 rfl
theorem C8 (A M : List (Int × Int)) (x : Int × Int) (D : List (Int × Int)) {j : Nat} (hj : j < M.length) : (oR A M x D j)[A.length + M.length - j - 1]? = M[M.length - j - 1]?:=by
 unfold oR
 rw [List.getElem?_append_right (by omega),List.getElem?_append_left (by simp; omega),List.getElem?_take]
 rw [if_pos (by omega)]
 congr 1
 omega
theorem zA (A M : List (Int × Int)) (x : Int × Int) (D : List (Int × Int)) {j : Nat} (hj : j < M.length) (y : Int × Int) (hy : M[M.length - j - 1]? = some y) : ((oR A M x D j).set (A.length + M.length - j) y).set (A.length + M.length - j - 1) x = oR A M x D (j + 1):=by
 obtain ⟨p,hp⟩ : ∃ p,M.length - j = p + 1:=⟨M.length - j - 1,by omega⟩
 have r7 : p < M.length:=by omega
 have hyp : M[p] = y:=by
  have : M.length - j - 1 = p:=by omega
  rw [this,List.getElem?_eq_getElem r7] at hy
  injection hy
 unfold oR
 have e1 : M.length - (j + 1) = p:=by omega
 rw [e1,hp,List.take_succ_eq_append_getElem r7,hyp,List.drop_eq_getElem_cons r7,hyp]
 have e2 : A.length + M.length - j = A.length + (p + 1):=by omega
 rw [e2]
 have e4 : A.length + (p + 1) - 1 = A.length + p:=by omega
 rw [e4,List.set_append_right _ _ (by omega),List.set_append_right _ _ (by omega)]
 have e5 : A.length + p - A.length = p:=by omega
 have e3 : A.length + (p + 1) - A.length = p + 1:=by omega
 have e7 : (M.take p).length = p:=by rw [List.length_take]; omega
 rw [e5,e3,List.append_assoc,List.set_append_right _ _ (by omega),List.set_append_right _ _ (by omega),e7]
 simp
def nT (M : List (Int × Int)) (x : Int × Int) (j : Nat) : Bool:=match M[M.length - j - 1]? with | some y=>decide (j < M.length -> y.1 <= x.1) | none=>true
theorem pK (A M : List (Int × Int)) (x : Int × Int) (D : List (Int × Int)) {j : Nat} (hj : j <= M.length) (hs : M.Pairwise (fun a b=>a.1 <= b.1)) (h1 : j < M.length -> nT M x j = true) (h2 : ∀ i,i < j -> nT M x i = false) : oR A M x D j = A ++ (oJ x M ++ D):=by
 have hle : ∀ y,y ∈ M.take (M.length - j) -> y.1 <= x.1:=by
  intro y hy
  obtain ⟨i,hi,rfl⟩:=List.getElem_of_mem hy
  have yh : i < M.length - j /\ i < M.length:=by rw [List.length_take] at hi; omega
  rw [List.getElem_take]
  have lB : j < M.length:=by omega
  have hh:=h1 lB
  have hl : M.length - j - 1 < M.length:=by omega
  unfold nT at hh
  rw [List.getElem?_eq_getElem hl] at hh
  simp only [decide_eq_true_eq] at hh
  have hh:=hh lB
  rcases Nat.lt_or_ge i (M.length - j - 1) with h | h
  ·have:=(List.pairwise_iff_getElem.1 hs) i (M.length - j - 1) yh.2 hl h
   omega
  ·have : i = M.length - j - 1:=by omega
   subst this
   exact hh
 have hgt : ∀ y,y ∈ M.drop (M.length - j) -> x.1 < y.1:=by
  intro y hy
  obtain ⟨i,hi,rfl⟩:=List.getElem_of_mem hy
  rw [List.length_drop] at hi
  rw [List.getElem_drop]
  have hh:=h2 (j - 1 - i) (by omega)
  unfold nT at hh
  have e : M.length - (j - 1 - i) - 1 = M.length - j + i:=by omega
  rw [e,List.getElem?_eq_getElem (by omega)] at hh
  simp only [decide_eq_false_iff_not] at hh
  have : ¬ M[M.length - j + i].1 <= x.1:=fun hh2=>hh fun _=>hh2
  omega
 have h:=tC x _ _ hle hgt
 rw [List.take_append_drop] at h
 rw [h]
 simp [oR]
theorem WR.Oz {aC bx : aa} {n : RN} {w : RW} (h : WR aC n w bx) {b : Nat} (hv : n.fv = .own b 2 0 w.aG.length) (hb : bx b = some (.row ni 2 (w.aG.map bH))) (l : List (Int × Int)) (hl : l.length = w.aG.length) :
 WR aC n { w with aG:=l } (aA bx b (some (.row ni 2 (l.map bH)))):=by
 have u9 : n.p ≠ b:=fun e=>by rw [<- e,h.row] at hb; injection hb with h1; injection h1 with h1; revert h1; decide
 have bp : n.bb ≠ b:=fun e=>by rw [<- e,h.ah] at hb; injection hb with h1; injection h1 with h1; revert h1; decide
 have k {e sz : Nat} {es : List V} {u : V} (hu : bd bx e sz es u) (h1 : e ≠ ni):=hu.put hb h1 (some (.row ni 2 (l.map bH)))
 exact ⟨(ar _ _ _).2 h.fin,fm h.ext (h.nf _ _ _ _ hv) _,h.np,h.nb,h.nc,h.nr,h.nf,h.nd,h.nw,by rw [ae _ _ u9]; exact h.row,by rw [ae _ _ bp]; exact h.ah,
  k h.ak (by decide),k h.aD (by decide),bd.set (es:=w.aG.map bH) (by simpa using hv) (by simpa using hl),fun i b hi=>k (h.ng i b hi) (by decide),fun i b hi=>k (h.ik i b hi) (by decide),h.dd,h.ww,h.dw,by
   have:=h.sm
   simpa [hl] using this⟩
theorem zB (A R : List (Int × Int)) {r : Nat} (hr : r < R.length) : A ++ (dF (R.take r) ++ R.drop r) = oR A (dF (R.take r)) R[r] (R.drop (r + 1)) 0 /\ A ++ (oJ R[r] (dF (R.take r)) ++ R.drop (r + 1)) = A ++ (dF (R.take (r + 1)) ++ R.drop (r + 1)):=by
 refine ⟨?_,?_⟩
 ·rw [G4,<- List.drop_eq_getElem_cons hr]
 ·rw [List.take_succ_eq_append_getElem hr,DW]
theorem sk {aC bx : aa} {n : RN} {w : RW} (h : WR aC n w bx) (k : Nat) (hk : k <= w.aG.length) (hl : w.aG.length <= 60000) :
 aw prog 92 [.ptr n.p 10 0 0,.int .i64 k] bx (pH aC n.p { w with aG:=w.aG.take k ++ dF (w.aG.drop k) }):=by
 refine V5 fun hf=>?_
 have aq:=h.row
 unfold gu at aq
 obtain ⟨z,hz⟩ : ∃ z,({ w with aG:=w.aG.take k ++ dF (w.aG.drop k) } : RW) = z:=⟨_,rfl⟩
 rw [hz]
 rcases Nat.eq_zero_or_pos w.aG.length with h0 | h0
 ·have EY : k = 0:=by omega
  subst EY
  have tY : w.aG = []:=List.length_eq_zero_iff.1 h0
  have hlen:=fun bx2=>fP (bx2:=bx2) (t:=31) h.aG vh
  simp [go_sem,h.aG.strip,h.aG.live,h0] at hlen
  simp [go_sem,C92,hf]
  refine ct 0 (fun k=>⟨70,bR [(0,.ptr n.p 10 0 0),(1,.int .i64 0),(4,.int .i64 0)],bx⟩) (al (by simp [go_sem])) (fun k hk N hN=>by omega) (fun N=>?_)
  simp [go_sem,Cl,hf,aq,h.aG.strip,h.aG.live,hlen]
  exact aj (by simp [go_sem]) (.of hz.symm ⟨by simp [go_sem],n,rfl,by rw [show w.aG.take 0 ++ dF (w.aG.drop 0) = w.aG by rw [tY]; rfl]; exact h⟩)
 ·obtain ⟨b,hv,hb⟩:=h.aG.at (by simpa using h0)
  simp at hv
  rw [hv] at aq
  have bp : n.p ≠ b:=fun e=>by rw [<- e,h.row] at hb; injection hb with h1; injection h1 with h1; revert h1; decide
  obtain ⟨A,hA⟩ : ∃ A,w.aG.take k = A:=⟨_,rfl⟩
  obtain ⟨R,hR⟩ : ∃ R,w.aG.drop k = R:=⟨_,rfl⟩
  have Lg : A.length = k:=by rw [<- hA,List.length_take]; omega
  have HO : R.length = w.aG.length - k:=by rw [<- hR,List.length_drop]
  rw [hA,hR] at hz
  have e0 : aA bx b (some (.row ni 2 ((A ++ (dF (R.take 0) ++ R.drop 0)).map bH))) = bx:=by
   rw [List.take_zero,List.drop_zero,show dF [] = [] from rfl,List.nil_append,<- hA,<- hR,List.take_append_drop]
   funext c
   by_cases e : c = b
   ·rw [e,af,hb]
   ·rw [ae _ _ e]
  simp [go_sem,C92,hf]
  refine ct R.length (fun r=>⟨70,bR [(0,.ptr n.p 10 0 0),(1,.int .i64 k),(4,.int .i64 ((k + r : Nat) : Int))],aA bx b (some (.row ni 2 ((A ++ (dF (R.take r) ++ R.drop r)).map bH)))⟩) (by rw [e0]; exact al (by simp [go_sem])) (fun r hr N hN=>?_) (fun N=>?_)
  ·obtain ⟨s1,s2⟩:=zB A R hr
   rw [<- s2] at hN
   rw [s1]
   have hM:=mL (R.take r)
   have J7 : (dF (R.take r)).length = r:=by rw [kN,List.length_take]; omega
   have hDl : (R.drop (r + 1)).length = R.length - (r + 1):=by rw [List.length_drop]
   generalize dF (R.take r) = M at *
   generalize R[r] = x at *
   generalize R.drop (r + 1) = D at *
   have hri : k + r < w.aG.length:=by omega
   have adh : (k : Int) + r < w.aG.length:=by omega
   have bg : bj (aA bx b (some (.row ni 2 ((oR A M x D 0).map bH)))):=(ar _ _ _).2 hf
   simp [go_sem,Cl,bg,aq,ae _ _ bp,adh]
   refine eP M.length (nT M x) (fun j=>⟨70,bR [(0,.ptr n.p 10 0 0),(1,.int .i64 k),(4,.int .i64 ((k + r : Nat) : Int)),(5,.int .i64 ((k + r - j : Nat) : Int))],aA bx b (some (.row ni 2 ((oR A M x D j).map bH)))⟩) (al (by simp [go_sem])) (fun j hj hJ N2 hN2=>?_) (fun hJ N2=>?_)
   ·obtain ⟨p,hp⟩ : ∃ p,k + r - j = p + 1:=⟨k + r - j - 1,by omega⟩
    rw [hp]
    have Jz : k + r - (j + 1) = p:=by omega
    rw [Jz] at hN2
    have d1 : (oR A M x D j)[p + 1]? = some x:=by
     have:=G5 A M x D (j:=j) (by omega)
     rwa [Lg,J7,hp] at this
    obtain ⟨y,hy⟩ : ∃ y,M[M.length - j - 1]? = some y:=⟨_,List.getElem?_eq_getElem (by omega)⟩
    have d2 : (oR A M x D j)[p]? = some y:=by
     have:=C8 A M x D (j:=j) hj
     rwa [Lg,J7,hp,show p + 1 - 1 = p by omega,<- J7,hy] at this
    have d3:=zA A M x D hj y hy
    rw [Lg,J7,hp,show p + 1 - 1 = p by omega] at d3
    have dl:=C7 A M x D j
    have da : bj (aA bx b (some (.row ni 2 ((oR A M x D j).map bH)))):=(ar _ _ _).2 hf
    obtain ⟨L,hL⟩ : ∃ L,oR A M x D j = L:=⟨_,rfl⟩
    rw [hL] at d1 d2 d3 dl da ⊢
    have r7 : p + 1 < L.length:=by omega
    have Bf : p < L.length:=by omega
    have d1' : L[p + 1] = x:=by rw [List.getElem?_eq_getElem r7] at d1; injection d1
    have d2' : L[p] = y:=by rw [List.getElem?_eq_getElem Bf] at d2; injection d2
    have Ku : w.aG.length = L.length:=by omega
    have hkp : (k : Int) < (p : Int) + 1:=by omega
    have Wt : IntKind.i64.wrap (p : Int) = p:=ij (by omega)
    have yf : (0 : Int) <= (p : Int) + 1:=by omega
    have lM : (p : Int) + 1 < (L.length : Int):=by omega
    have Wu : (p : Int) < (L.length : Int):=by omega
    have iq : nT M x j = decide (y.1 <= x.1):=by
     unfold nT
     rw [hy]
     simp [hj]
    rw [iq] at hN2
    have gW : ((L.map bH).set (p + 1) (.agg [.int .i64 y.1,.int .i64 y.2])).set p (.agg [.int .i64 x.1,.int .i64 x.2]) = (oR A M x D (j + 1)).map bH:=by
     rw [<- d3,List.map_set,List.map_set]
     rfl
    by_cases c1 : x.1 < y.1
    ·simp [go_sem,Ck,da,aq,ae _ _ bp,af,hkp,Wt,r7,Bf,d1',d2',bH,iI,c1,Ku,ar,hf,yf,lM,Wu]
     rw [gW]
     exact hN2 _ (by simpa using c1) (al (by simp [go_sem]))
    ·simp [go_sem,Ck,da,aq,ae _ _ bp,af,hkp,Wt,r7,Bf,d1',d2',bH,iI,c1,Ku,ar,hf,yf,lM,Wu]
     rw [<- hL,pK A M x D (by omega) hM (fun _=>by rw [iq]; simpa using c1) hJ]
     have vz : IntKind.i64.wrap ((k : Int) + r + 1) = (k : Int) + (r + 1):=by rw [ij (by omega)]; omega
     exact hN _ (al (by simp [go_sem,vz]))
   ·have jm : k + r - M.length = k:=by omega
    rw [jm]
    have da : bj (aA bx b (some (.row ni 2 ((oR A M x D M.length).map bH)))):=(ar _ _ _).2 hf
    rw [pK A M x D (Nat.le_refl _) hM (fun h=>absurd h (Nat.lt_irrefl _)) hJ] at da ⊢
    simp [go_sem,Ck,da,aq,ae _ _ bp,-List.map_append]
    have vz : IntKind.i64.wrap ((k : Int) + r + 1) = (k : Int) + (r + 1):=by rw [ij (by omega)]; omega
    exact hN _ (al (by simp [go_sem,vz]))
  ·have da : bj (aA bx b (some (.row ni 2 ((A ++ (dF (R.take R.length) ++ R.drop R.length)).map bH)))):=(ar _ _ _).2 hf
   rw [List.take_length,List.drop_length,List.append_nil] at da ⊢
   have Dy : k + R.length = w.aG.length:=by omega
   rw [Dy]
   simp [go_sem,Cl,da,aq,ae _ _ bp]
   exact aj (by simp [go_sem]) (.of hz.symm ⟨by simp [go_sem],n,rfl,by simpa using h.Oz hv hb (A ++ dF R) (by rw [List.length_append,kN]; omega)⟩)
theorem Wv (x y : Int × Int) (bx : aa) : ay prog 124 [bH x,bH y] bx (.int .i64 (ck (x.1 - y.1))):=by
 refine Nv fun hf=>?_
 simp [go_sem,VG,hf,bH,iI]
 exact az (by simp [go_sem]) ⟨by simp [go_sem]; rfl,rfl⟩
theorem J8 (m : Nat) (hm : m <= 12) (bx : aa) : ay prog 180 [.int .u64 m] bx (.int .i64 ([0,1,2,2,3,3,3,3,4,4,4,4,4].getD m 0)):=by
 refine NS fun hf=>?_
 have : m = 0 \/ m = 1 \/ m = 2 \/ m = 3 \/ m = 4 \/ m = 5 \/ m = 6 \/ m = 7 \/ m = 8 \/ m = 9 \/ m = 10 \/ m = 11 \/ m = 12:=by omega
 rcases this with rfl | rfl | rfl | rfl | rfl | rfl | rfl | rfl | rfl | rfl | rfl | rfl | rfl
 all_goals (
  simp [go_sem,VZ,hf]
  refine ⟨by decide,?_⟩
  exact az (by simp [go_sem]) ⟨by simp [go_sem]; decide,rfl⟩)
theorem Lh (m : Nat) (hm : m <= 12) (bx : aa) : ay prog 155 [.int .u64 m] bx (.int .i64 ([0,1,2,2,3,3,3,3,4,4,4,4,4].getD m 0)):=by
 refine ND fun hf=>?_
 have hw : IntKind.u64.wrap (m : Int) = m:=Ft (by omega)
 simp [go_sem,VV,hf,hw]
 refine ag (J8 m hm bx) ?_
 simp [go_sem,hf]
 exact az (by simp [go_sem]) ⟨by simp [go_sem],rfl⟩
theorem Ww (A R : List (Int × Int)) (hA : A.length <= 100000) (hR : R.length <= 12) (hk : ∀ f,f ∈ R -> 0 <= f.1 /\ f.1 <= 100) {b : Nat} {bx : aa} (hb : bx b = some (.row ni 2 ((A ++ R).map bH))) :
 aw prog 171 [.own b 2 A.length R.length,.int .i64 0,.int .i64 R.length,.fn (.func 124) []] bx fun r bx'=>r = .dh [] /\ bx' = aA bx b (some (.row ni 2 ((A ++ dF R).map bH))):=by
 refine Gj fun hf=>?_
 have e0 : aA bx b (some (.row ni 2 ((A ++ (dF (R.take (0 + 1)) ++ R.drop (0 + 1))).map bH))) = bx:=by
  have : dF (R.take (0 + 1)) ++ R.drop (0 + 1) = R:=by cases R <;> rfl
  rw [this]
  funext c
  by_cases e : c = b
  ·rw [e,af,hb]
  ·rw [ae _ _ e]
 simp [go_sem,Jq,hf]
 refine ct (R.length - 1) (fun r=>⟨53,bR [(0,.own b 2 A.length R.length),(1,.int .i64 0),(2,.int .i64 R.length),(3,.fn (.func 124) []),(8,.int .i64 ((r + 1 : Nat) : Int))],aA bx b (some (.row ni 2 ((A ++ (dF (R.take (r + 1)) ++ R.drop (r + 1))).map bH)))⟩) (by rw [e0]; exact al (by simp [go_sem]; decide)) (fun r hr N hN=>?_) (fun N=>?_)
 ·obtain ⟨s1,s2⟩:=zB A R (show r + 1 < R.length by omega)
  rw [<- s2] at hN
  rw [s1]
  have hM:=mL (R.take (r + 1))
  have J7 : (dF (R.take (r + 1))).length = r + 1:=by rw [kN,List.length_take]; omega
  have hDl : (R.drop (r + 1 + 1)).length = R.length - (r + 1 + 1):=by rw [List.length_drop]
  have ED : ∀ y,y ∈ dF (R.take (r + 1)) -> 0 <= y.1 /\ y.1 <= 100:=fun y hy=>hk y (List.mem_of_mem_take ((qs _).mem_iff.1 hy))
  have hxk:=hk R[r + 1] (List.getElem_mem (show r + 1 < R.length by omega))
  clear s1 s2
  obtain ⟨M,hMe⟩ : ∃ M,dF (R.take (r + 1)) = M:=⟨_,rfl⟩
  obtain ⟨x,hxe⟩ : ∃ x,R[r + 1]'(show r + 1 < R.length by omega) = x:=⟨_,rfl⟩
  obtain ⟨D,hDe⟩ : ∃ D,R.drop (r + 1 + 1) = D:=⟨_,rfl⟩
  rw [hMe] at hN hM J7 ED ⊢
  rw [hxe] at hN hxk ⊢
  rw [hDe] at hN hDl ⊢
  have hri : ((r : Int) + 1) < R.length:=by omega
  have bg : bj (aA bx b (some (.row ni 2 ((oR A M x D 0).map bH)))):=(ar _ _ _).2 hf
  simp [go_sem,tt,bg,hri]
  refine eP M.length (nT M x) (fun j=>⟨53,bR [(0,.own b 2 A.length R.length),(1,.int .i64 0),(2,.int .i64 R.length),(3,.fn (.func 124) []),(8,.int .i64 ((r + 1 : Nat) : Int)),(9,.int .i64 ((r + 1 - j : Nat) : Int))],aA bx b (some (.row ni 2 ((oR A M x D j).map bH)))⟩) (al (by simp [go_sem])) (fun j hj hJ N2 hN2=>?_) (fun hJ N2=>?_)
  ·obtain ⟨p,hp⟩ : ∃ p,r + 1 - j = p + 1:=⟨r + 1 - j - 1,by omega⟩
   rw [hp]
   have Jz : r + 1 - (j + 1) = p:=by omega
   rw [Jz] at hN2
   have d1 : (oR A M x D j)[A.length + (p + 1)]? = some x:=by
    have:=G5 A M x D (j:=j) (by omega)
    rwa [J7,show A.length + (r + 1) - j = A.length + (p + 1) by omega] at this
   obtain ⟨y,hy⟩ : ∃ y,M[M.length - j - 1]? = some y:=⟨_,List.getElem?_eq_getElem (by omega)⟩
   have d2 : (oR A M x D j)[A.length + p]? = some y:=by
    have:=C8 A M x D (j:=j) hj
    rw [hy] at this
    rwa [J7,show A.length + (r + 1) - j - 1 = A.length + p by omega] at this
   have d3:=zA A M x D hj y hy
   rw [J7,show A.length + (r + 1) - j = A.length + (p + 1) by omega,show A.length + (p + 1) - 1 = A.length + p by omega] at d3
   have dl:=C7 A M x D j
   have hyk:=ED y (List.mem_of_getElem? hy)
   have da : bj (aA bx b (some (.row ni 2 ((oR A M x D j).map bH)))):=(ar _ _ _).2 hf
   have iq : nT M x j = decide (y.1 <= x.1):=by
    unfold nT
    rw [hy]
    simp [hj]
   rw [iq] at hN2
   obtain ⟨L,hL⟩ : ∃ L,oR A M x D j = L:=⟨_,rfl⟩
   rw [hL] at d1 d2 d3 dl da ⊢
   have r7 : A.length + (p + 1) < L.length:=by omega
   have Bf : A.length + p < L.length:=by omega
   have d1' : L[A.length + (p + 1)] = x:=by rw [List.getElem?_eq_getElem r7] at d1; injection d1
   have d2' : L[A.length + p] = y:=by rw [List.getElem?_eq_getElem Bf] at d2; injection d2
   have Wt : IntKind.i64.wrap (p : Int) = p:=ij (by omega)
   have yf : (0 : Int) <= (p : Int) + 1:=by omega
   have lM : (p : Int) + 1 < (R.length : Int):=by omega
   have Wu : (p : Int) < (R.length : Int):=by omega
   have vz : IntKind.i64.wrap (x.1 - y.1) = x.1 - y.1:=ij (by omega)
   have gW : ((L.map bH).set (A.length + (p + 1)) (bH y)).set (A.length + p) (bH x) = (oR A M x D (j + 1)).map bH:=by
    rw [<- d3,List.map_set,List.map_set]
   have hfc : ∀ z : Int × Int,(bH z).cells.length = 2:=fun z=>rfl
   have QA : ∀ z : Int × Int,V.agg (List.take 2 (bH z).cells) = bH z:=fun z=>rfl
   simp [go_sem,AX,da,Wt,yf,lM,Wu,r7,Bf,d1',d2',hfc,QA]
   refine dn (Wv x y _) (by simp [go_sem,bH,iI]) (by simp [go_sem]) ?_
   have hw : ck (x.1 - y.1) = x.1 - y.1:=vz
   by_cases c1 : x.1 < y.1
   ·have c2 : x.1 - y.1 < 0:=by omega
    simp [go_sem,hw,c2,da,Wt,yf,lM,Wu,r7,Bf,d1',d2',hfc,QA]
    refine ⟨rfl,rfl,?_⟩
    have ZC : ∀ z u : Int × Int,ba (bH z) 0 (bH u).cells = bH u:=fun z u=>rfl
    simp only [ZC]
    rw [gW]
    exact hN2 _ (by simpa using c1) (al (by simp [go_sem]))
   ·have c2 : ¬ x.1 - y.1 < 0:=by omega
    simp [go_sem,hw,c2,da]
    rw [<- hL,pK A M x D (by omega) hM (fun _=>by rw [iq]; simpa using c1) hJ]
    have vz : IntKind.i64.wrap ((r : Int) + 1 + 1) = (r : Int) + 1 + 1:=by rw [ij (by omega)]
    exact hN _ (al (by simp [go_sem,vz]))
  ·have jm : r + 1 - M.length = 0:=by omega
   rw [jm]
   have da : bj (aA bx b (some (.row ni 2 ((oR A M x D M.length).map bH)))):=(ar _ _ _).2 hf
   rw [pK A M x D (Nat.le_refl _) hM (fun h=>absurd h (Nat.lt_irrefl _)) hJ] at da ⊢
   simp [go_sem,AX,da,-List.map_append]
   refine jI (.int .i64 0) (by simp [go_sem]) ?_
   simp [go_sem,da,-List.map_append]
   have vz : IntKind.i64.wrap ((r : Int) + 1 + 1) = (r : Int) + 1 + 1:=by rw [ij (by omega)]
   exact hN _ (al (by simp [go_sem,vz]))
 ·have da : bj (aA bx b (some (.row ni 2 ((A ++ (dF (R.take (R.length - 1 + 1)) ++ R.drop (R.length - 1 + 1))).map bH)))):=(ar _ _ _).2 hf
  have dt : ¬ ((R.length - 1 : Nat) : Int) + 1 < R.length:=by omega
  have e1 : R.take (R.length - 1 + 1) = R:=List.take_of_length_le (by omega)
  have e2 : R.drop (R.length - 1 + 1) = []:=List.drop_eq_nil_of_le (by omega)
  rw [e1,e2,List.append_nil] at da ⊢
  simp [go_sem,tt,da,dt]
  exact aj (by simp [go_sem]) ⟨by simp [go_sem],by simp⟩
theorem Wx (A R : List (Int × Int)) (hA : A.length <= 100000) (hR : R.length <= 12) (hk : ∀ f,f ∈ R -> 0 <= f.1 /\ f.1 <= 100) (k : Int) {b : Nat} {bx : aa} (hb : bx b = some (.row ni 2 ((A ++ R).map bH))) :
 aw prog 154 [.own b 2 A.length R.length,.int .i64 0,.int .i64 R.length,.int .i64 k,.fn (.func 124) []] bx fun r bx'=>r = .dh [] /\ bx' = aA bx b (some (.row ni 2 ((A ++ dF R).map bH))):=by
 refine Gh fun hf=>?_
 simp [go_sem,Jo,hf]
 refine ct 0 (fun _=>⟨148,bR [(0,.own b 2 A.length R.length),(1,.int .i64 0),(2,.int .i64 R.length),(3,.int .i64 k),(4,.fn (.func 124) []),(10,.bool true),(11,.bool true)],bx⟩) (al (by simp [go_sem])) (fun k hk=>absurd hk (by omega)) ?_
 intro N
 have h1 : IntKind.i64.wrap (R.length : Int) = R.length:=ij (by omega)
 have h2 : (R.length : Int) <= 12:=by omega
 simp [go_sem,xm,hf,h1,h2]
 refine an (Ww A R hA hR hk hb) ?_
 rintro r bM ⟨rfl,rfl⟩
 simp [go_sem,ar,hf]
 exact aj (by simp [go_sem]) ⟨by simp [go_sem],by simp⟩
theorem G6 (A R : List (Int × Int)) (hA : A.length <= 100000) (hR : R.length <= 12) (hk : ∀ f,f ∈ R -> 0 <= f.1 /\ f.1 <= 100) {b : Nat} {bx : aa} (hb : bx b = some (.row ni 2 ((A ++ R).map bH))) :
 aw prog 123 [.own b 2 A.length R.length,.fn (.func 124) []] bx fun r bx'=>r = .dh [] /\ bx' = aA bx b (some (.row ni 2 ((A ++ dF R).map bH))):=by
 refine FZ fun hf=>?_
 have h1 : IntKind.u64.wrap (R.length : Int) = R.length:=Ft (by omega)
 simp [go_sem,Nu,hf,h1]
 refine ag (Lh R.length hR bx) ?_
 simp [go_sem,hf]
 refine an (Wx A R hA hR hk _ hb) ?_
 rintro r bM ⟨rfl,rfl⟩
 simp [go_sem,ar,hf]
 exact aj (by simp [go_sem]) ⟨by simp [go_sem],by simp⟩
theorem O0 (v : V) (hv : v = .aI \/ v = .sl 2 []) (bx : aa) : ay prog 171 [v,.int .i64 0,.int .i64 0,.fn (.func 124) []] bx (.dh []):=by
 refine Gj fun hb=>?_
 rcases hv with rfl | rfl
 ·simp [go_sem,Jq,hb,ij]
  refine ct 0 (fun _=>⟨53,bR [(0,V.aI),(1,V.int IntKind.i64 0),(2,V.int IntKind.i64 0),(3,V.fn (Fn.func 124) []),(8,V.int IntKind.i64 1)],bx⟩) (al (by simp [go_sem]; try rfl)) (fun k hk=>absurd hk (by omega)) ?_
  intro N
  simp [go_sem,tt]
  refine az ?_ ?_ <;> simp [go_sem]
 ·simp [go_sem,Jq,hb,ij]
  refine ct 0 (fun _=>⟨53,bR [(0,(V.sl 2 [])),(1,V.int IntKind.i64 0),(2,V.int IntKind.i64 0),(3,V.fn (Fn.func 124) []),(8,V.int IntKind.i64 1)],bx⟩) (al (by simp [go_sem]; try rfl)) (fun k hk=>absurd hk (by omega)) ?_
  intro N
  simp [go_sem,tt]
  refine az ?_ ?_ <;> simp [go_sem]
theorem O1 (v : V) (hv : v = .aI \/ v = .sl 2 []) (bx : aa) : ay prog 154 [v,.int .i64 0,.int .i64 0,.int .i64 0,.fn (.func 124) []] bx (.dh []):=by
 refine Gh fun hb=>?_
 have hi:=O0 v hv bx
 rcases hv with rfl | rfl
 ·simp [go_sem,Jo,hb,ij]
  refine ct 0 (fun _=>⟨148,bR [(0,V.aI),(1,V.int IntKind.i64 0),(2,V.int IntKind.i64 0),(3,V.int IntKind.i64 0),(4,V.fn (Fn.func 124) []),(10,.bool true),(11,.bool true)],bx⟩) (al (by simp [go_sem]; try rfl)) (fun k hk=>absurd hk (by omega)) ?_
  intro N
  simp [go_sem,xm,ij]
  refine ag hi ?_
  simp [go_sem]
  refine az ?_ ?_ <;> simp [go_sem]
 ·simp [go_sem,Jo,hb,ij]
  refine ct 0 (fun _=>⟨148,bR [(0,(V.sl 2 [])),(1,V.int IntKind.i64 0),(2,V.int IntKind.i64 0),(3,V.int IntKind.i64 0),(4,V.fn (Fn.func 124) []),(10,.bool true),(11,.bool true)],bx⟩) (al (by simp [go_sem]; try rfl)) (fun k hk=>absurd hk (by omega)) ?_
  intro N
  simp [go_sem,xm,ij]
  refine ag hi ?_
  simp [go_sem]
  refine az ?_ ?_ <;> simp [go_sem]
theorem C9 (v : V) (hv : v = .aI \/ v = .sl 2 []) (bx : aa) : ay prog 123 [v,.fn (.func 124) []] bx (.dh []):=by
 refine FZ fun hb=>?_
 have hi:=O1 v hv bx
 rcases hv with rfl | rfl
 all_goals (
  simp [go_sem,Nu,hb,Ft]
  refine ag (Lh 0 (by omega) bx) ?_
  simp [go_sem]
  refine ag hi ?_
  simp [go_sem]
  refine az ?_ ?_ <;> simp [go_sem])
end Go.Proofs
namespace Go.Pl
open Go
theorem rK {P : Program} (hm : P.follows .mixedOrders = true) {M : dP} {f : FuncId} {fn : Func} {c : Code} (hf : P.funcs[f]? = some fn) (hb : fn.body = some c) (rD : fn.results = #[])
 {x y r : PC} {d : Tmp} {g : FuncId} {caps : Array Operand} (hc : compile c = erase (.seq x (.seq y (.seq (.bn false [⟨some d,.makeFunc (.func g) #[] caps,none,false⟩,⟨none,.defer { callee:=.value (.tmp d),args:=#[],argTypes:=#[] },none,false⟩] []) r))))
 {gn : Func} {cg : Code} (uV : P.funcs[g]? = some gn) (H8 : gn.body = some cg) {so : List Bool} {lg : List bO} (MP : compile cg = erase (.jP so lg [])) (rA : gn.results = #[]) (ue : ∀ vs w,(callFunc g vs).run P w = .ok (.enter g vs) w)
 {args : List V} {bx : aa} {D : aa -> Prop} {E : List V -> aa -> Prop} (hE : E = fun cv bx=>lf P (fun s=>∃ bx',cj s.bx bx' /\ D bx') so lg (bW gn.ntmps cv bx))
 (h : pw P (.seq x y) (fun e st=>e = .normal /\ du P false ⟨some d,.makeFunc (.func g) #[] caps,none,false⟩ (fun st2=>∃ cv : List V,st2.sl d = .fn (.func g) cv /\
  pw P r (fun e2 st3=>(e2 = .normal \/ e2 = .ret) /\ E cv st3.bx) st2) st) (bW fn.ntmps args bx)) :
 EP P M f args bx (fun r bx'=>r = .dh [] /\ D bx'):=by
 subst hE
 exact rH hm hf hb rD hc uV H8 MP rA ue h
end Go.Pl
namespace Go.Proofs
open Go Go.Pl Tryz
theorem WI.beside {aC bx : aa} {ad : cQ} {s : IW} (h : WI aC ad s bx) {b : Nat} (hb : bx b = none) (v : bI) : WI (aA aC b (some v)) ad s (aA bx b (some v)):=by
 refine ⟨(ar _ _ _).2 h.fin,fun c hc=>?_,fun c b' e=>?_,h.none_,h.inj⟩
 ·by_cases e : c = b
  ·rw [e,af,af]
  ·rw [ae _ _ e,ae _ _ e]
   exact h.ext c (by rwa [ae _ _ e] at hc)
 ·obtain ⟨k1,k2,k3⟩:=h.at_ c b' e
  have : b' ≠ b:=fun e2=>by rw [e2,hb] at k2; cases k2
  exact ⟨by rw [ae _ _ this,k1],by rw [ae _ _ this,k2],k3⟩
theorem WI.back {aC bx : aa} {ad : cQ} {s : IW} {b : Nat} {v : bI} (h : WI (aA aC b (some v)) ad s bx) (hb : aC b = none) : WI aC ad s bx /\ bx b = some v /\ ∀ c,ad c ≠ some b:=by
 refine ⟨⟨h.fin,fun c hc=>?_,fun c b' e=>?_,h.none_,h.inj⟩,?_,fun c e=>?_⟩
 ·have : c ≠ b:=fun e=>by rw [e] at hc; exact hc hb
  have h2:=h.ext c (by rwa [ae _ _ this])
  rwa [ae _ _ this] at h2
 ·obtain ⟨k1,k2,k3⟩:=h.at_ c b' e
  have : b' ≠ b:=fun e2=>by rw [e2,af] at k1; cases k1
  exact ⟨by rwa [ae _ _ this] at k1,k2,k3⟩
 ·have h2:=h.ext b (by rw [af]; simp)
  rwa [af] at h2
 ·have:=(h.at_ c b e).1
  rw [af] at this
  cases this
theorem WI.CA {aC bx : aa} {ad : cQ} {s : IW} (h : WI aC ad s bx) {b : Nat} (hb : bx b = none) : aC b = none:=by
 cases e : aC b with
 | none=>rfl
 | some x=>have:=h.ext b (by rw [e]; simp); rw [hb,e] at this; cases this
def fc (s : IW) (x : Ev) : IW:={ s.ai (decide (x.t < s.now)) 12 with now:=if s.now < x.t then x.t else s.now }
def tD (n : Nat) (z : IW × Bool) : IW :=
 let s:=z.1.ai (!z.2) 13
 { s with aG:=s.aG.take n ++ dF (s.aG.drop n) }
def opsOf : PC -> List bO | .jP _ l _=>l | _=>[]
theorem WI.O2 {aC bx : aa} {ad : cQ} {s : IW} (h : WI aC ad s bx) {b : Nat} (hb : ad .aG = some b) (l : List (Int × Int)) (hl : l.length = s.aG.length) :
 WI aC ad { s with aG:=l } (aA bx b (some (.row ni 2 (l.map bH)))) :=
 h.put hb { s with aG:=l } (fun c' b' hc _=>by cases c' <;> first | rfl | exact absurd rfl hc | (simp [cont,HN,il,hl])) (fun c'=>by cases c' <;> exact Iff.rfl) (fun c' o e=>by
  cases c' <;> first | exact o | (rw [hb] at e; cases e))
theorem J9 {bxb kd : aa} {ad5 : cQ} {s5 : IW} (h : WI bxb ad5 s5 kd) {p : Nat} (hp : ad5 .w = some p) {b n : Nat} (hb : kd b = some (.row 3 1 [.int .i64 n])) (wP : n <= s5.aG.length) (Fg : s5.aG.length <= n + 12) (hl : s5.aG.length <= 100000) (hk : ∀ f,f ∈ s5.aG.drop n -> 0 <= f.1 /\ f.1 <= 100)
 {D : aa -> Prop} (hD : ∀ rI,WI bxb ad5 { s5 with aG:=s5.aG.take n ++ dF (s5.aG.drop n) } rI -> D rI) :
 lf prog (fun s=>∃ bx',cj s.bx bx' /\ D bx') [false,false,false,false,false,false,true] (opsOf Jh) (bW 9 [.ep (.ptr p 13 0 0) 0,.ptr b 1 0 0] kd):=by
 rw [kI]
 have hf:=h.fin
 obtain ⟨pb,pc,pr,pm,pw',hn⟩:=h.names hp
 have aq:=h.row hn
 unfold il at aq
 have zC:=h.Gp
 simp [go_sem,opsOf,Jh,hf,aq,hb,zC.strip,zC.live]
 cases QA : ad5 .aG with
 | none =>
   have h0 : s5.aG = []:=h.none_ .aG QA trivial
   have hn0 : n = 0:=by rw [h0] at wP; simpa using wP
   subst hn0
   simp [go_sem,j3,hf]
   refine ag (C9 _ (.inl rfl) _) ?_
   simp [go_sem,hf]
   refine ⟨kd,cj.refl _,hD kd ?_⟩
   have e : s5.aG.take 0 ++ dF (s5.aG.drop 0) = s5.aG:=by rw [h0]; rfl
   rw [e]
   exact h
 | some b2 =>
   obtain ⟨A,hA⟩ : ∃ A,s5.aG.take n = A:=⟨_,rfl⟩
   obtain ⟨R,hR⟩ : ∃ R,s5.aG.drop n = R:=⟨_,rfl⟩
   have hAR : A ++ R = s5.aG:=by rw [<- hA,<- hR,List.take_append_drop]
   have Lg : A.length = n:=by rw [<- hA,List.length_take]; omega
   have HO : R.length = s5.aG.length - n:=by rw [<- hR,List.length_drop]
   rw [hA,hR] at hD
   rw [hR] at hk
   have c9 : kd b2 = some (.row ni 2 ((A ++ R).map bH)):=by rw [hAR]; exact (h.at_ _ _ QA).2.1
   have h6:=h.O2 QA (A ++ dF R) (by rw [List.length_append,kN,Lg,HO]; omega)
   rcases Nat.lt_or_ge n s5.aG.length with dt | ue
   ·simp [go_sem,j3,hf,dt]
    rw [<- HO,<- Lg]
    refine an (G6 A R (by omega) (by omega) hk c9) ?_
    rintro r rI ⟨rfl,rfl⟩
    simp [go_sem,ar,hf]
    exact ⟨_,cj.refl _,hD _ (by simpa using h6)⟩
   ·have QB : R = []:=List.length_eq_zero_iff.1 (by omega)
    have e6 : A ++ dF R = s5.aG:=by rw [QB,show dF [] = [] from rfl,<- hAR,QB]
    rw [e6] at hD
    rcases Nat.eq_zero_or_pos n with h0 | h0
    ·subst h0
     have hA0 : A = []:=List.length_eq_zero_iff.1 Lg
     have QC : s5.aG.length = 0:=by omega
     simp [go_sem,j3,hf,QC]
     have:=G6 A R (by omega) (by omega) hk c9
     rw [Lg,QB] at this
     refine an this ?_
     rintro r rI ⟨rfl,rfl⟩
     simp [go_sem,ar,hf]
     refine ⟨_,cj.refl _,hD _ ?_⟩
     have h6':=h6
     rw [e6] at h6'
     rw [QB] at e6
     simpa [<- e6] using h6'
    ·have dt : ¬ n < s5.aG.length:=by omega
     have bp : ¬ n = 0:=by omega
     have heq : (n : Int) = (s5.aG.length : Int):=by omega
     simp [go_sem,j3,hf,dt,bp,heq]
     refine ag (C9 _ (.inr rfl) _) ?_
     simp [go_sem,hf]
     exact ⟨kd,cj.refl _,hD kd h⟩
theorem JA {aC bx : aa} {ad : cQ} {s : IW} (h : WI aC ad s bx) {p : Nat} (hp : ad .w = some p) (x : Ev) (bi : Int) (g : FuncId) (n0 n1 n2 n3 : Bool) (n4 n5 : Int) (z : IW × Bool)
 (hF : ∀ aC bx ad,WI aC ad (fc s x) bx -> ad .w = some p -> aw prog g [.ptr p 13 0 0,dL x bi] bx (de aC ad z)) (hl : s.aG.length <= 80000) (iJ : s.aG.length <= z.1.aG.length) (XI : z.1.aG.length <= s.aG.length + 10) (hk : ∀ f,f ∈ z.1.aG.drop s.aG.length -> 0 <= f.1 /\ f.1 <= 100) :
 aw prog 89 [.ptr p 13 0 0,.agg [.bool n0,.bool n1,.bool n2,.bool n3,.int .i64 n4,.int .i64 n5,.fn (.func g) []],dL x bi] bx (nQ aC ad (tD s.aG.length z)):=by
 refine ⟨ac4,fun β M=>?_⟩
 obtain ⟨c,hb,hc⟩:=Nf
 obtain ⟨cg,H8,MP⟩:=Ji
 obtain ⟨E,hE⟩ : ∃ E : List V -> aa -> Prop,E = fun cv bx=>lf prog (fun s'=>∃ bx',cj s'.bx bx' /\ ∃ ad',bQ ad ad' /\ WI aC ad' (tD s.aG.length z) bx') [false,false,false,false,false,false,true] (opsOf Jh) (bW f122.ntmps cv bx):=⟨_,rfl⟩
 refine rK (by kernel_rfl) func89 hb (by kernel_rfl) hc func122 H8 MP (by kernel_rfl) VF hE ?_ β
 rw [VD] at hE
 have hf:=h.fin
 obtain ⟨pb,pc,pr,pm,pw',hn⟩:=h.names hp
 have aq:=h.row hn
 unfold il at aq
 have zC:=h.Gp
 have hlen:=fun bx2=>fP (bx2:=bx2) (t:=31) zC vh
 simp [go_sem,zC.strip,zC.live] at hlen
 rw [ac3,yU]
 simp [go_sem,hf,aq,zC.strip,zC.live,hlen,dL,iI]
 intro b hb6
 have hnp : p ≠ b:=by rintro rfl; rw [aq] at hb6; cases hb6
 have h1:=h.beside hb6 (.row 3 1 [.int .i64 s.aG.length])
 have dD:=h.CA hb6
 obtain ⟨bxb,Wy⟩ : ∃ bxb,aA aC b (some (.row 3 1 [.int .i64 s.aG.length])) = bxb:=⟨_,rfl⟩
 obtain ⟨bM,Bb⟩ : ∃ bM,aA bx b (some (.row 3 1 [.int .i64 s.aG.length])) = bM:=⟨_,rfl⟩
 rw [Wy,Bb] at h1
 rw [Bb]
 have bg:=h1.fin
 have fG:=h1.row hn
 unfold il at fG
 have evg : V.agg [V.int .i64 x.kind,V.int .i64 bi,V.int .i64 x.t,V.int .i64 x.call,V.int .i64 x.conn,V.int .i64 x.jQ,V.int .i64 x.n,V.bool x.yes] = dL x bi:=rfl
 have Zp : ∀ (ad3 : cQ) (bx3 : aa),bQ ad ad3 -> WI bxb ad3 (fc s x) bx3 -> aw prog g [.ptr p 13 0 0,dL x bi] bx3 (de bxb ad3 z):=fun ad3 bx3 Cx h3=>hF _ _ _ h3 (Cx _ _ hp rfl)
 have CB : ∀ (ad5 : cQ) (kd : aa),bQ ad ad5 -> WI bxb ad5 (z.1.ai (!z.2) 13) kd -> E [.ep (.ptr p 13 0 0) 0,.ptr b 1 0 0] kd:=by
  intro ad5 kd E3 h5
  rw [hE]
  rw [<- Wy] at h5
  obtain ⟨_,Li,_⟩:=h5.back dD
  have Zq : (z.1.ai (!z.2) 13).aG.length <= z.1.aG.length + 1 /\ s.aG.length <= (z.1.ai (!z.2) 13).aG.length /\ ∀ f,f ∈ (z.1.ai (!z.2) 13).aG.drop s.aG.length -> 0 <= f.1 /\ f.1 <= 100:=by
   unfold IW.ai IW.fault
   split
   ·refine ⟨by simp,by simp; omega,fun f hf=>?_⟩
    rw [List.drop_append_of_le_length iJ] at hf
    rcases List.mem_append.1 hf with hf | hf
    ·exact hk f hf
    ·simp at hf; subst hf; exact ⟨by show (0 : Int) <= 13; decide,by show (13 : Int) <= 100; decide⟩
   ·exact ⟨by omega,iJ,hk⟩
  refine J9 h5 (E3 _ _ hp rfl) Li Zq.2.1 (by omega) (by omega) Zq.2.2 fun rI h6=>?_
  exact ⟨ad5,E3,(h6.back dD).1⟩
 by_cases c1 : x.t < s.now
 ·simp [go_sem,bg,fG,c1,iI]
  refine an (dq h1 hn.w 12 (by omega)) ?_
  rintro r bx2 ⟨rfl,ad2,fJ,h2⟩
  have da:=h2.fin
  have Fg:=hn.ch fJ
  have fH:=h2.row Fg
  unfold il at fH
  have adi : (s.fault 12).now = s.now:=rfl
  have h3:=h2.world Fg (if s.now < x.t then x.t else s.now) (s.fault 12).at_ (s.fault 12).stop
  have hpr : fc s x = { s.fault 12 with now:=if s.now < x.t then x.t else s.now }:=by unfold fc IW.ai; rw [if_pos (by simpa using c1)]
  unfold il at h3
  simp only [iI] at h3
  simp [go_sem,da,fH,iI,adi,c1]
  generalize (aA bx2 p (some (bI.row KZ 13 [V.agg [V.sl 4 (List.map bT (s.fault 12).aL),V.int IntKind.i64 (s.fault 12).most,V.sl 8 (List.map fY (s.fault 12).ky),V.int IntKind.i64 (if s.now < x.t then x.t else s.now),V.int IntKind.i64 (s.fault 12).at_,V.own pb 6 0 (s.fault 12).ah.length,V.mp pc,j3 (ad2 nP.ord) 1 (s.fault 12).ord.length,V.mp pr,V.mp pm,V.mp pw',V.bool (s.fault 12).stop,j3 (ad2 nP.aG) 2 (s.fault 12).aG.length]]))) = bx3 at *
  have h3 : WI bxb ad2 (fc s x) bx3:=by rw [hpr]; exact h3
  have lu:=h3.fin
  rw [evg]
  refine an (Zp ad2 bx3 fJ h3) ?_
  rintro r bx4 ⟨rfl,ad4,DQ,h4⟩
  have DQ : bQ ad ad4:=(fJ).trans DQ
  have nR:=h4.fin
  cases AB : z.2
  ·simp [go_sem,nR]
   refine an (dq h4 (DQ _ _ hp rfl) 13 (by omega)) ?_
   rintro r kd ⟨rfl,ad5,E3,h5⟩
   simp [go_sem]
   exact CB ad5 kd (DQ.trans E3) (by rw [AB]; exact h5)
  ·simp [go_sem]
   exact CB ad4 bx4 DQ (by rw [AB]; exact h4)
 ·have h3:=h1.world hn (if s.now < x.t then x.t else s.now) s.at_ s.stop
  have hpr : fc s x = { s with now:=if s.now < x.t then x.t else s.now }:=by unfold fc IW.ai; rw [if_neg (by simpa using c1)]
  unfold il at h3
  simp only [iI] at h3
  simp [go_sem,bg,fG,c1,iI]
  generalize (aA bM p (some (bI.row KZ 13 [V.agg [V.sl 4 (List.map bT s.aL),V.int IntKind.i64 s.most,V.sl 8 (List.map fY s.ky),V.int IntKind.i64 (if s.now < x.t then x.t else s.now),V.int IntKind.i64 s.at_,V.own pb 6 0 s.ah.length,V.mp pc,j3 (ad nP.ord) 1 s.ord.length,V.mp pr,V.mp pm,V.mp pw',V.bool s.stop,j3 (ad nP.aG) 2 s.aG.length]]))) = bx3 at *
  have h3 : WI bxb ad (fc s x) bx3:=by rw [hpr]; exact h3
  have lu:=h3.fin
  rw [evg]
  refine an (Zp ad bx3 (bQ.refl ad) h3) ?_
  rintro r bx4 ⟨rfl,ad4,DQ,h4⟩
  have DQ : bQ ad ad4:=(bQ.refl ad).trans DQ
  have nR:=h4.fin
  cases AB : z.2
  ·simp [go_sem,nR]
   refine an (dq h4 (DQ _ _ hp rfl) 13 (by omega)) ?_
   rintro r kd ⟨rfl,ad5,E3,h5⟩
   simp [go_sem]
   exact CB ad5 kd (DQ.trans E3) (by rw [AB]; exact h5)
  ·simp [go_sem]
   exact CB ad4 bx4 DQ (by rw [AB]; exact h4)
end Go.Proofs
namespace Go.Proofs
open Go Go.Pl Tryz
def eM (s : IW) (x : Ev) : IW × Bool:=match x.kind.toNat with
 | 1=>oH s x
 | 2=>qV s x
 | 3=>pC s x
 | 4=>mG s x
 | 5=>qU s x
 | 6=>aZ s x
 | 7=>qW s x
 | 8=>mJ s x
 | 9=>qR s x
 | 10=>qQ s x
 | 11=>qO s x
 | 12=>qP s x
 | 13=>mH s x
 | 14=>zu s x
 | 15=>zv s x
 | 16=>kf s x
 | 17=>xE s x
 | 18=>tw s
 | _=>pG s
theorem pL {α : Type} (l : List (Int × α)) (k : Int) : (jS l k).isSome = true ↔ k ∈ l.map (·.1):=by
 unfold jS
 rw [List.findIdx?_isSome,List.any_eq_true,List.mem_map]
 constructor
 ·rintro ⟨q,h1,h2⟩
  exact ⟨q,h1,by simpa using h2⟩
 ·rintro ⟨q,h1,h2⟩
  exact ⟨q,h1,by simpa using h2⟩
theorem JB {α : Type} {l : List (Int × α)} {k : Int} {j : Nat} (h : jS l k = some j) : k ∈ l.map (·.1):=(pL l k).1 (by rw [h]; rfl)
structure oK (s : IW) : Prop where
 ord : s.ord = s.ak.map (·.num)
 nU : (s.ak.map (·.num)).Nodup
 oS : ∀ c,c ∈ s.ak -> c.st = 1 -> c.call ∈ s.aD.map (·.1)
 CC : ∀ q,q ∈ s.busy -> q.1 ∈ s.aD.map (·.1)
structure CI (l : List Int) (c w : Nat) (s s' : IW) : Prop where
 ky : s'.ky = s.ky
 aL : s'.aL = s.aL
 most : s'.most = s.most
 at_ : s'.at_ = s.at_
 len : s'.ah.length = s.ah.length
 ak : s'.ak.length <= s.ak.length + c
 G7 : ∀ m,(∀ b,b ∈ s.ah -> b.waits.length <= m) -> ∀ b,b ∈ s'.ah -> b.waits.length <= m + w
 inv : oK s -> oK s'
 aG : ∃ E : List Int,s'.aG = s.aG ++ E.map (fun k=>(k,s.at_)) /\ E.Sublist l
theorem CI.refl (s : IW) : CI [] 0 0 s s:=⟨rfl,rfl,rfl,rfl,rfl,Nat.le_refl _,fun m h=>h,fun h=>h,[],by simp,.refl _⟩
theorem CI.trans {l l' : List Int} {c w c' w' : Nat} {s s' s2 : IW} (h : CI l c w s s') (h' : CI l' c' w' s' s2) : CI (l ++ l') (c + c') (w + w') s s2:=by
 obtain ⟨E,hE,hs⟩:=h.aG
 obtain ⟨E',hE',hs'⟩:=h'.aG
 refine ⟨h'.ky.trans h.ky,h'.aL.trans h.aL,h'.most.trans h.most,h'.at_.trans h.at_,h'.len.trans h.len,by have:=h.ak; have:=h'.ak; omega,fun m hm b hb=>?_,fun hi=>h'.inv (h.inv hi),E ++ E',?_,hs.append hs'⟩
 ·have:=h'.G7 _ (h.G7 m hm) b hb
  omega
 ·rw [hE',hE,h.at_,List.map_append,List.append_assoc]
theorem CI.le {l l' : List Int} {c w c' w' : Nat} {s s' : IW} (h : CI l c w s s') (hl : l.Sublist l') (hc : c <= c') (hw : w <= w') : CI l' c' w' s s':=by
 obtain ⟨E,hE,hs⟩:=h.aG
 exact ⟨h.ky,h.aL,h.most,h.at_,h.len,by have:=h.ak; omega,fun m hm b hb=>by have:=h.G7 m hm b hb; omega,h.inv,E,hE,hs.trans hl⟩
theorem CI.fault (s : IW) (k : Int) : CI [k] 0 0 s (s.fault k):=⟨rfl,rfl,rfl,rfl,rfl,Nat.le_refl _,fun m h=>h,fun h=>⟨h.ord,h.nU,h.oS,h.CC⟩,[k],rfl,.refl _⟩
theorem CI.ai (s : IW) (b : Bool) (k : Int) : CI [k] 0 0 s (s.ai b k):=by
 unfold IW.ai
 split
 ·exact CI.fault s k
 ·exact (CI.refl s).le (List.nil_sublist _) (Nat.le_refl _) (Nat.le_refl _)
theorem CI.ah (s : IW) (i : Nat) (b : IB) {w : Nat} (hb : ∀ m,(∀ b,b ∈ s.ah -> b.waits.length <= m) -> b.waits.length <= m + w) : CI [] 0 w s { s with ah:=s.ah.set i b }:=by
 refine ⟨rfl,rfl,rfl,rfl,by simp,Nat.le_refl _,fun m hm b' aQ=>?_,fun h=>⟨h.ord,h.nU,h.oS,h.CC⟩,[],by simp,.refl _⟩
 rcases List.mem_or_eq_of_mem_set aQ with h | rfl
 ·have:=hm _ h
  omega
 ·exact hb m hm
theorem tE {s : IW} {m : Nat} (h : ∀ b,b ∈ s.ah -> b.waits.length <= m) (i : Nat) : (s.ah.getD i fZ).waits.length <= m:=by
 rw [List.getD_eq_getElem?_getD]
 cases e : s.ah[i]? with
 | none=>exact Nat.zero_le _
 | some b=>exact h b (List.mem_of_getElem? e)
theorem CI.aO (s : IW) (i : Nat) (b : IB) (hb : b.waits = (s.ah.getD i fZ).waits) : CI [] 0 0 s (s.aO i b):=CI.ah s i b fun m hm=>by rw [hb]; exact tE hm i
theorem zD (l : List (Int × IR)) (i : Nat) (r : IR) : (l.set i ((l.getD i (0,nO)).1,r)).map (·.1) = l.map (·.1):=by
 apply List.ext_getElem?
 intro j
 rw [List.getElem?_map,List.getElem?_map,List.getElem?_set]
 by_cases e : i = j
 ·subst e
  by_cases h : i < l.length
  ·simp [h]
  ·simp [h]
 ·simp [e]
theorem CI.dO (s : IW) (i : Nat) (r : IR) : CI [] 0 0 s (s.dO i r):=by
 have e : (s.dO i r).aD.map (·.1) = s.aD.map (·.1):=zD s.aD i r
 exact ⟨rfl,rfl,rfl,rfl,rfl,Nat.le_refl _,fun m h=>h,fun h=>⟨h.ord,h.nU,by rw [e]; exact h.oS,by rw [e]; exact h.CC⟩,[],by simp [IW.dO],.refl _⟩
theorem G8 (l : List IC) (i : Nat) (c : IC) (hc : c.num = (l.getD i kv).num) : (l.set i c).map (·.num) = l.map (·.num):=by
 apply List.ext_getElem?
 intro j
 rw [List.getElem?_map,List.getElem?_map,List.getElem?_set]
 by_cases e : i = j
 ·subst e
  by_cases h : i < l.length
  ·simp [h] at hc ⊢
   exact hc
  ·simp [h]
 ·simp [e]
theorem CI.ba (s : IW) (i : Nat) (c : IC) (hc : c.num = (s.ak.getD i kv).num) (hq : c.st = 1 -> c.call ∈ s.aD.map (·.1)) : CI [] 0 0 s (s.ba i c):=by
 have e:=G8 s.ak i c hc
 refine ⟨rfl,rfl,rfl,rfl,rfl,by simp [IW.ba],fun m h=>h,fun h=>⟨?_,?_,fun c' gP h1=>?_,h.CC⟩,[],by simp [IW.ba],.refl _⟩
 ·show s.ord = (s.ak.set i c).map (·.num)
  rw [e]
  exact h.ord
 ·show ((s.ak.set i c).map (·.num)).Nodup
  rw [e]
  exact h.nU
 ·by_cases hi : i < s.ak.length
  ·rcases List.mem_or_eq_of_mem_set gP with h2 | rfl
   ·exact h.oS c' h2 h1
   ·exact hq h1
  ·have e2 : s.ak.set i c = s.ak:=List.set_eq_of_length_le (by omega)
   have gP : c' ∈ s.ak.set i c:=gP
   rw [e2] at gP
   exact h.oS c' gP h1
theorem DX {α : Type} {l : List (Int × α)} {k : Int} {x : α} {q : Int × α} (h : q ∈ jk l k x) : q.1 = k \/ q ∈ l:=by
 unfold jk at h
 split at h
 ·rcases List.mem_or_eq_of_mem_set h with h | rfl
  ·exact .inr h
  ·exact .inl rfl
 ·rcases List.mem_append.1 h with h | h
  ·exact .inr h
  ·simp at h
   exact .inl (by rw [h])
theorem G9 {α : Type} {l : List (Int × α)} {k : Int} {q : Int × α} (h : q ∈ nC l k) : q ∈ l:=by
 unfold nC at h
 split at h
 ·exact List.mem_of_mem_eraseIdx h
 ·exact h
theorem CI.nm (s : IW) (x : Ev) (q : IP) (hq : q ≠ dB -> x.call ∈ s.aD.map (·.1)) : CI [] 0 0 s (aW s x q):=by
 unfold aW
 split
 ·exact ⟨rfl,rfl,rfl,rfl,rfl,Nat.le_refl _,fun m h=>h,fun h=>⟨h.ord,h.nU,h.oS,fun q hq=>h.CC q (G9 hq)⟩,[],by simp,.refl _⟩
 ·rename_i bp
  refine ⟨rfl,rfl,rfl,rfl,rfl,Nat.le_refl _,fun m h=>h,fun h=>⟨h.ord,h.nU,h.oS,fun q' uU=>?_⟩,[],by simp,.refl _⟩
  rcases DX uU with e | hm
  ·rw [e]; exact hq bp
  ·exact h.CC q' hm
theorem DY (l : List Int) (n : Int) : (vp l n).length <= l.length:=List.length_filter_le _ _
theorem CI.served (s : IW) (x : Ev) : CI [] 0 0 s (bG s x):=CI.ah s _ _ fun m hm=>Nat.le_trans (DY _ _) (tE hm _)
theorem tF {s : IW} {call : Int} (h : iE s call ≠ dB) (hi : oK s) : call ∈ s.aD.map (·.1):=by
 unfold iE at h
 split at h
 ·rename_i j hj
  obtain ⟨hl,hk⟩:=oE hj
  rw [<- hk]
  exact hi.CC _ (List.getElem_mem hl)
 ·exact absurd rfl h
theorem DZ {s : IW} {x : Ev} (h : gE s x = true) (hi : oK s) : x.call ∈ s.aD.map (·.1):=by
 refine tF (fun e=>?_) hi
 unfold gE at h
 rw [e] at h
 simp [dB] at h
theorem xI {s : IW} {x : Ev} (h : oF s x = true) (hi : oK s) : x.call ∈ s.aD.map (·.1):=by
 unfold oF at h
 rw [Bool.or_eq_true] at h
 rcases h with h | h
 ·exact DZ h hi
 ·unfold fF at h
  split at h
  ·rename_i i lM
   split at lM
   ·rename_i j hj
    exact JB hj
   ·cases lM
  ·cases h
theorem xJ {s : IW} {x : Ev} {i : Nat} (h : lq s x = some i) : (s.ak.getD i kv).st = 1 /\ (s.ak.getD i kv).call = x.call:=by
 unfold lq at h
 split at h
 ·rename_i j hj
  split at h
  ·rename_i h2
   injection h with h
   rw [<- h]
   exact h2
  ·cases h
 ·cases h
theorem xK {s : IW} {x : Ev} {i : Nat} (h : lq s x = some i) (hi : oK s) : x.call ∈ s.aD.map (·.1):=by
 have h1:=sh h
 obtain ⟨h2,h3⟩:=xJ h
 rw [<- h3]
 refine hi.oS _ ?_ h2
 rw [List.getD_eq_getElem?_getD,List.getElem?_eq_getElem h1]
 exact List.getElem_mem h1
theorem CI.CD (s : IW) (x : Ev) : CI [] 0 0 s (aZ s x).1:=by
 unfold aZ
 split
 ·dsimp only
  exact (CI.aO s x.bk { s.ah.getD x.bk fZ with au:=ck ((s.ah.getD x.bk fZ).au - 1) } rfl).trans (CI.nm (s.aO x.bk { s.ah.getD x.bk fZ with au:=ck ((s.ah.getD x.bk fZ).au - 1) }) x dB fun h=>absurd rfl h)
 ·exact CI.refl s
theorem zE (s : IW) (x : Ev) : (aZ s x).1.aD = s.aD /\ (aZ s x).1.ak = s.ak /\ ((aZ s x).2 = true -> iE s x.call ≠ dB):=by
 unfold aZ
 split
 ·rename_i h
  refine ⟨?_,?_,fun _ e=>?_⟩
  ·dsimp only; unfold aW; split <;> rfl
  ·dsimp only; unfold aW; split <;> rfl
  ·rw [e] at h; simp [dB] at h
 ·exact ⟨rfl,rfl,fun h=>by cases h⟩
theorem CI.opened (s : IW) (c : IC) (hn : c.num ∉ s.ak.map (·.num)) (hs : c.st ≠ 1) : CI [] 1 0 s { s with ak:=s.ak ++ [c],ord:=s.ord ++ [c.num] }:=by
 refine ⟨rfl,rfl,rfl,rfl,rfl,by simp,fun m h=>h,fun h=>⟨?_,?_,fun c' gP h1=>?_,h.CC⟩,[],by simp,.refl _⟩
 ·simp [h.ord]
 ·dsimp only
  rw [List.map_append,List.nodup_append]
  refine ⟨h.nU,by simp,fun a ha b hb=>?_⟩
  simp at hb
  rw [hb]
  exact fun e=>hn (e ▸ ha)
 ·rcases List.mem_append.1 gP with h2 | h2
  ·exact h.oS c' h2 h1
  ·simp at h2
   rw [h2] at h1
   exact absurd h1 hs
theorem xL (s : IW) (b : Bool) (k : Int) : (s.ai b k).aD = s.aD /\ (s.ai b k).ak = s.ak /\ (s.ai b k).ah = s.ah:=by unfold IW.ai; split <;> exact ⟨rfl,rfl,rfl⟩
theorem CI.take (s : IW) (i : Nat) (x : Ev) (hm : x.call ∈ s.aD.map (·.1)) : CI [] 0 0 s (jr s i x):=by
 unfold jr
 have h1:=CI.ba s i { s.ak.getD i kv with st:=1,call:=x.call,aU:=ck ((s.ak.getD i kv).aU + 1) } rfl (fun _=>hm)
 exact h1.trans (CI.nm (s.ba i { s.ak.getD i kv with st:=1,call:=x.call,aU:=ck ((s.ak.getD i kv).aU + 1) }) x ⟨false,false,true⟩ (fun _=>hm))
def GA (s s' : IW) : Prop:=∃ l : List Int,(l.Nodup /\ (∀ k,k ∈ l -> 1 <= k /\ k <= 11) /\ l.length <= 3) /\ CI l 1 1 s s'
theorem CI.sub {l : List Int} {c w : Nat} {s s' : IW} (h : CI l c w s s') (hl : l.Nodup /\ (∀ k,k ∈ l -> 1 <= k /\ k <= 11) /\ l.length <= 3:=by decide) (hc : c <= 1:=by decide) (hw : w <= 1:=by decide) : GA s s':=⟨l,hl,h.le (.refl _) hc hw⟩
theorem CE (s : IW) (x : Ev) (hi : oK s) : GA s (eM s x).1:=by
 unfold eM
 split
 ·unfold oH
  split
  ·exact (CI.refl s).sub
  ·refine ⟨[],by decide,rfl,rfl,rfl,rfl,rfl,Nat.le_add_right _ _,fun m h b hb=>Nat.le_succ_of_le (h b hb),fun h=>⟨h.ord,h.nU,fun c hc h1=>?_,fun q hq=>?_⟩,[],by simp,List.nil_sublist _⟩
   ·rw [List.map_append]; exact List.mem_append_left _ (h.oS c hc h1)
   ·rw [List.map_append]; exact List.mem_append_left _ (h.CC q hq)
 ·unfold qV
  split
  ·exact (CI.refl s).sub
  ·rename_i i hr
   dsimp only
   obtain ⟨b,hb⟩ : ∃ b,s.ah.getD x.bk fZ = b:=⟨_,rfl⟩
   rw [hb]
   have h1:=CI.ai s (b.down || decide (b.gL = 1)) 7
   generalize e1 : s.ai (b.down || decide (b.gL = 1)) 7 = s1 at *
   have eU : s1.ah = s.ah:=by rw [<- e1]; unfold IW.ai; split <;> rfl
   have h2 : CI [8] 0 0 s1 (if b.gL = 2 then (s1.ai (decide (0 < b.aK) && decide (b.aK ≠ x.call)) 8).aO x.bk { b with aK:=x.call } else s1):=by
    split
    ·have h3:=CI.ai s1 (decide (0 < b.aK) && decide (b.aK ≠ x.call)) 8
     generalize e2 : s1.ai (decide (0 < b.aK) && decide (b.aK ≠ x.call)) 8 = s2 at *
     have c9 : s2.ah = s1.ah:=by rw [<- e2]; unfold IW.ai; split <;> rfl
     exact h3.trans (CI.aO s2 x.bk { b with aK:=x.call } (by rw [c9,eU,hb]))
    ·exact (CI.refl s1).le (List.nil_sublist _) (Nat.le_refl _) (Nat.le_refl _)
   exact (((h1.trans h2).trans (CI.ai _ _ 10)).trans (CI.dO _ i _)).sub
 ·unfold pC
  split
  ·exact (CI.refl s).sub
  ·rename_i hc
   have hm : oF s x = true:=by simp at hc; exact hc.2
   dsimp only
   obtain ⟨b,hb⟩ : ∃ b,s.ah.getD x.bk fZ = b:=⟨_,rfl⟩
   rw [hb]
   have h1 : CI [] 0 1 s (s.aO x.bk { b with waits:=b.waits ++ [x.call] }):=CI.ah s x.bk _ fun m hm=>by have:=tE hm x.bk; rw [hb] at this; simp; omega
   exact ((h1.trans (CI.nm (s.aO x.bk { b with waits:=b.waits ++ [x.call] }) x ⟨false,true,false⟩ fun _=>(show x.call ∈ s.aD.map (·.1) from xI hm hi))).trans (CI.ai _ _ 3)).sub
 ·unfold mG
  split
  ·exact ((CI.served s x).trans (CI.nm _ x dB fun h=>absurd rfl h)).sub
  ·exact (CI.refl s).sub
 ·unfold qU
  split
  ·rename_i hm
   dsimp only
   exact (((((CI.ai s (fW s x) 9).trans (CI.served _ x)).trans (CI.nm _ x ⟨true,false,false⟩ fun _=>by
    have:=xI hm hi
    unfold IW.ai
    split <;> exact this)).trans (CI.aO _ x.bk _ (by rfl))).trans (CI.ai _ _ 2)).sub
  ·exact (CI.refl s).sub
 ·exact (CI.CD s x).sub
 ·unfold qW
  split
  ·exact (CI.refl s).sub
  ·rename_i nK
   have hd:=CI.CD s x
   have hq:=zE s x
   dsimp only
   generalize aZ s x = d at *
   split
   ·rename_i hd2
    have adj : x.call ∈ d.1.aD.map (·.1):=by rw [hq.1]; exact tF (hq.2.2 hd2) hi
    have Zp : x.conn ∉ d.1.ak.map (·.num):=by
     rw [hq.2.1]
     intro hm
     rw [List.findIdx?_eq_none_iff] at nK
     have:=nK _ hm
     simp at this
    have h2:=CI.opened d.1 ⟨x.conn,x.bk,0,d.1.now,-1,0,0,3,0,0⟩ Zp (by show (3 : Int) ≠ 1; decide)
    dsimp only at h2
    generalize na : ({ d.1 with ak:=d.1.ak ++ [(⟨x.conn,x.bk,0,d.1.now,-1,0,0,3,0,0⟩ : IC)],ord:=d.1.ord ++ [x.conn] } : IW) = s2 at *
    have c9 : d.1.ah = s2.ah:=by rw [<- na]
    have rR : s2.aD = d.1.aD:=by rw [<- na]
    dsimp only
    split
    ·exact (((hd.trans h2).trans (CI.aO s2 x.bk _ (by rw [<- c9]))).trans (CI.take _ _ x (by show x.call ∈ s2.aD.map (·.1); rw [rR]; exact adj))).sub
    ·exact ((hd.trans h2).trans (CI.aO s2 x.bk _ (by rw [<- c9]))).sub
   ·exact hd.sub
 ·unfold mJ
  split
  ·rename_i hm
   split
   ·exact (CI.fault s 4).sub
   ·rename_i i hti
    dsimp only
    split
    ·exact (CI.fault s 4).sub
    ·split
     ·exact (CI.fault s 1).sub
     ·have h1:=CI.ai s (fW s x) 9
      have q1:=(xL s (fW s x) 9).1
      generalize s.ai (fW s x) 9 = s1 at *
      obtain ⟨B,hB⟩ : ∃ B,(decide ((s.aL.getD x.bk ⟨0,0,0,0⟩).xu <= ck (s.now - (s.ak.getD i kv).born)) || (decide ((s.ak.getD i kv).st = 2) && decide ((s.aL.getD x.bk ⟨0,0,0,0⟩).idle <= ck (s.now - (s.ak.getD i kv).since)))) = B:=⟨_,rfl⟩
      rw [hB]
      have h2:=CI.ai s1 B 5
      have q2:=(xL s1 B 5).1
      generalize s1.ai B 5 = s2 at *
      exact (((h1.trans h2).trans (CI.served s2 x)).trans (CI.take _ i x (by show x.call ∈ s2.aD.map (·.1); rw [q2,q1]; exact xI hm hi))).sub
  ·exact (CI.refl s).sub
 ·unfold qR
  split
  ·exact (CI.fault s 4).sub
  ·rename_i i ho
   split
   ·exact (CI.refl s).sub
   ·rename_i j hj
    dsimp only
    obtain ⟨h2,h3⟩:=xJ ho
    have hm:=xK ho hi
    obtain ⟨B,hB⟩ : ∃ B,(!(s.aD.getD j (0,nO)).2.idem && decide (0 < (s.aD.getD j (0,nO)).2.bK) && decide ((s.aD.getD j (0,nO)).2.bK < (s.aD.getD j (0,nO)).2.aM)) = B:=⟨_,rfl⟩
    rw [hB]
    have hq:=xL s B 10
    refine ((CI.ai s B 10).trans ((CI.dO _ j _).trans (CI.ba _ i _ ?_ fun _=>?_))).sub
    ·show _ = ((s.ai B 10).ak.getD i kv).num
     rw [hq.2.1]
    ·dsimp only
     rw [h3]
     show _ ∈ List.map (·.1) ((s.ai B 10).aD.set j (((s.ai B 10).aD.getD j (0,nO)).1,_))
     rw [zD,hq.1]
     exact hm
 ·unfold qQ
  split
  ·exact (CI.fault s 4).sub
  ·rename_i i ho
   dsimp only
   obtain ⟨h2,h3⟩:=xJ ho
   have hm:=xK ho hi
   have hq:=xL s (decide (x.jQ ≠ x.call)) 6
   exact ((CI.ai s _ 6).trans (CI.ba _ i _ (by rw [hq.2.1]) (fun _=>by rw [hq.1]; dsimp only; rw [h3]; exact hm))).sub
 ·unfold qO
  split
  ·exact (CI.refl s).sub
  ·rename_i i ho
   dsimp only
   exact ((CI.ba s i { s.ak.getD i kv with st:=if x.yes then 3 else 4,call:=0 } rfl (fun h=>by dsimp only at h; split at h <;> exact absurd h (by decide))).trans (CI.nm _ x dB fun h=>absurd rfl h)).sub
 ·unfold qP
  split
  ·exact (CI.fault s 4).sub
  ·dsimp only
   split
   ·exact (CI.fault s 4).sub
   ·split
    ·exact (CI.fault s 1).sub
    ·split
     ·exact (CI.refl s).sub
     ·exact (CI.ba s _ _ (by rfl) (fun h=>by dsimp only at h; exact absurd h (by decide))).sub
 ·unfold mH
  split
  ·exact (CI.fault s 4).sub
  ·rename_i i _
   dsimp only
   split
   ·exact (CI.refl s).sub
   ·exact ((CI.ba s i { s.ak.getD i kv with st:=5,gone:=s.now } rfl (fun h=>by dsimp only at h; exact absurd h (by decide))).trans (CI.aO (s.ba i { s.ak.getD i kv with st:=5,gone:=s.now }) x.bk _ (by rfl))).sub
 ·exact (CI.aO s x.bk _ (by rfl)).sub
 ·exact (CI.aO s x.bk _ (by rfl)).sub
 ·unfold kf
  split
  ·exact (CI.refl s).sub
  ·dsimp only
   split
   ·exact (CI.refl s).sub
   ·split
    ·exact (CI.aO s x.bk _ (by rfl)).sub
    ·exact (CI.refl s).sub
 ·unfold xE
  split
  ·exact (CI.dO s _ _).sub
  ·exact (CI.refl s).sub
 ·refine ⟨[],by decide,rfl,rfl,rfl,rfl,rfl,Nat.le_add_right _ _,fun m h b hb=>Nat.le_succ_of_le (h b hb),fun h=>⟨h.ord,h.nU,h.oS,h.CC⟩,[],by simp [tw],List.nil_sublist _⟩
 ·unfold pG
  split
  ·exact (CI.ai s _ 11).sub
  ·exact (CI.refl s).sub
structure Nd where
 call : Bool
 bk : Bool
 conn : Bool
 jQ : Bool
 low : Int
 high : Int
def QD (n : Nd) : List V:=[.bool n.call,.bool n.bk,.bool n.conn,.bool n.jQ,iI n.low,iI n.high]
def nd (k : Nat) : Nd:=match k with
 | 1 | 17=>⟨true,false,false,false,0,0⟩
 | 2 | 4 | 5 | 6 | 16=>⟨true,true,false,false,0,0⟩
 | 3=>⟨true,true,false,false,0,1000000000000⟩
 | 7 | 8 | 11=>⟨true,true,true,false,0,0⟩
 | 9=>⟨true,true,true,false,1,1000000000⟩
 | 10=>⟨true,true,true,true,1,1000000000⟩
 | 12 | 13=>⟨false,true,true,false,0,0⟩
 | 14=>⟨false,true,false,false,0,0⟩
 | 15=>⟨false,true,false,false,0,2⟩
 | _=>⟨false,false,false,false,0,0⟩
def iY (k : Nat) : V:=.agg (QD (nd k) ++ [if k = 0 then .ic else .fn (.func (68 + k)) []])
def GB : bI:=.row 86 7 ((List.range 20).map iY)
theorem CF (bx : aa) : aw prog 34 [] bx fun r bx'=>∃ b,bx b = none /\ r = .own b 7 0 20 /\ bx' = aA bx b (some GB):=by
 refine UU fun hf=>?_
 simp [go_sem,C34,hf]
 intro b1 h1 b2 h2 b3 h3
 have e1 : aA bx b1 none = bx:=by funext c; by_cases e : c = b1; · rw [e,af,h1]
                                  ·rw [ae _ _ e]
 rw [e1] at h2 h3 ⊢
 have e2 : aA bx b2 none = bx:=by funext c; by_cases e : c = b2; · rw [e,af,h2]
                                  ·rw [ae _ _ e]
 rw [e2] at h3 ⊢
 exact aj (by simp [go_sem]) ⟨b3,h3,by simp [go_sem],rfl⟩
def xM (n : Nd) (x : Ev) (b nb : Int) : Bool :=
 decide (x.t < 0) || decide (1000000000000 < x.t) || (n.call && decide (x.call < 1)) || (n.bk && (decide (b < 0) || decide (nb <= b))) || (n.conn && decide (x.conn < 1)) || (n.jQ && decide (x.jQ < 1)) || (decide (0 < n.high) && (decide (x.n < n.low) || decide (n.high < x.n)))
theorem Wz (n : Nd) (x : Ev) (b nb : Int) (bx : aa) : ay prog 35 [.agg (QD n),dL x b,.int .i64 nb] bx (.bool (xM n x b nb)):=by
 refine UW fun hf=>?_
 simp [go_sem,C35,hf,QD,dL,iI]
 obtain ⟨nc,nb',nn,no,lo,hi⟩:=n
 dsimp only
 repeat' (with_reducible apply And.intro)
 all_goals first
  | (exact az (by simp [go_sem]) ⟨by simp [go_sem,xM,Bool.or_assoc],rfl⟩)
  | (intros; grind)
def Bg (n lo hi : Int) : Bool:=decide (n < lo) || decide (hi < n)
theorem nq (n lo hi : Int) (bx : aa) : ay prog 110 [.int .i64 n,.int .i64 lo,.int .i64 hi] bx (.bool (Bg n lo hi)):=by
 refine Nh fun hf=>?_
 simp [go_sem,V7,hf]
 exact az (by simp [go_sem]) ⟨by simp [go_sem,Bg],rfl⟩
def hZ (m : fb) : Bool:=Bg m.max 1 64 || Bg m.queue 0 64 || Bg m.idle 1 1000000000000 || Bg m.xu 1 1000000000000
theorem JC (m : fb) (bx : aa) : ay prog 68 [bT m] bx (.bool (hZ m)):=by
 refine Vi fun hf=>?_
 simp [go_sem,C68,hf,bT,iI]
 refine ag (nq _ _ _ bx) ?_
 simp [go_sem]
 refine dn (nq _ _ _ _) (by simp) (by simp [go_sem]) ?_
 simp [go_sem]
 refine dn (nq _ _ _ _) (by simp) (by simp [go_sem]) ?_
 simp [go_sem]
 refine dn (nq _ _ _ _) (by simp) (by simp [go_sem]) ?_
 simp [go_sem]
 exact az (by simp [go_sem]) ⟨by simp [go_sem,hZ],rfl⟩
theorem GC (L : List fb) (hl : L.length <= 1000000) (bx : aa) : ay prog 109 [.sl 4 (L.map bT),.fn (.func 68) []] bx (.int .i64 (uE hZ L)):=by
 refine Ng fun hf=>?_
 simp [go_sem,V6,hf]
 refine eP L.length (fun i=>hZ (L.getD i ⟨0,0,0,0⟩)) (fun i=>⟨19,bR [(0,.sl 4 (L.map bT)),(1,.fn (.func 68) []),(7,.int .i64 L.length),(8,.int .i64 i)],bx⟩) (al (by simp [go_sem])) (fun i hi hJ N hN=>?_) (fun hJ N=>?_)
 ·have hw:=bt (k:=i) (by omega)
  have hg : L.getD i ⟨0,0,0,0⟩ = L[i]:=by simp [hi]
  rw [hg] at hN
  simp [go_sem,AS,hi,hf,hw]
  refine ⟨Nat.le_refl 4,ag (JC L[i] bx) ?_⟩
  cases hpi : hZ L[i]
  ·simp [go_sem,hf,hw]
   exact hN _ hpi (al (by simp [go_sem]))
  ·simp [go_sem,hf,hw]
   refine az (by simp [go_sem]) ⟨?_,rfl⟩
   simp [go_sem,zp hi hJ hpi]
 ·simp [go_sem,AS,hf]
  refine az (by simp [go_sem]) ⟨?_,rfl⟩
  simp [go_sem,vn hJ]
theorem GD {α : Type} (p : α -> Bool) (l : List α) : decide (0 <= uE p l) = l.any p:=by
 rcases Cv p l with ⟨h1,h2⟩ | ⟨i,hi,h1,h2,_⟩
 ·rw [h1]
  symm
  rw [show decide ((0 : Int) <= -1) = false by decide,List.any_eq_false]
  intro x hx
  simp [h2 x hx]
 ·rw [h1]
  have : l.any p = true:=List.any_eq_true.2 ⟨_,List.getElem_mem hi,h2⟩
  rw [this]
  simp
theorem rj (L : List fb) (hl : L.length <= 1000000) (bx : aa) : ay prog 67 [.sl 4 (L.map bT),.fn (.func 68) []] bx (.bool (L.any hZ)):=by
 refine Vh fun hf=>?_
 simp [go_sem,C67,hf]
 refine ag (GC L hl bx) ?_
 simp [go_sem]
 exact az (by simp [go_sem]) ⟨by simp [go_sem,GD],rfl⟩
def iZ (m : fb) : V:=.agg [iI m.max,iI m.queue,iI m.idle,iI m.xu,.aI,.aI,.aI,.aI,.bool true,iI 0,iI 0]
def jJ (L : List fb) : Int:=if L.length = 0 \/ 16 < L.length then 3 else if L.any hZ then 7 else 0
def ew (w : V) : V:=.agg [iI 0,.bool false,w]
theorem W0 (L : List fb) (hl : L.length <= 1000000) (bx : aa) : aw prog 33 [.sl 4 (L.map bT)] bx fun r bx'=>bx' = bx /\ ∃ w,(w = .aI \/ ∃ es,w = .sl 11 es) /\ r = .dh [ew w,iI (jJ L)]:=by
 obtain ⟨Kc,fe⟩ : ∃ Kc : V -> aa -> Prop,Kc = fun r bx'=>bx' = bx /\ ∃ w,(w = .aI \/ ∃ es,w = .sl 11 es) /\ r = .dh [ew w,iI (jJ L)]:=⟨_,rfl⟩
 rw [<- fe]
 refine UT fun hf=>?_
 have j7 : ∀ (e : Int),jJ L = e -> Kc (.dh [ew .aI,.int .i64 e]) bx:=fun e he=>by rw [fe]; exact ⟨rfl,.aI,.inl rfl,by rw [he]; rfl⟩
 have hold : ∀ (b2 b4 : Nat) (x y z : bI),bx b2 = none -> aA bx b2 (some x) b4 = none -> Ext bx (aA (aA bx b2 (some y)) b4 (some z)):=by
  intro b2 b4 x y z h2 h4
  have h5 : bx b4 = none:=by
   by_cases e : b4 = b2
   ·rw [e,h2]
   ·rwa [ae _ _ e] at h4
  exact ((Ext.refl bx).aN h2 (some y)).aN h5 (some z)
 by_cases c1 : L = [] \/ 16 < L.length
 ·have c1' : L = [] \/ (16 : Int) < (L.length : Int):=by
   rcases c1 with c | c
   ·exact .inl c
   ·exact .inr (by omega)
  have hz : jJ L = 3:=by
   unfold jJ
   rw [if_pos]
   rcases c1 with c | c
   ·exact .inl (by rw [c]; rfl)
   ·exact .inr c
  simp [go_sem,Zk,hf,c1']
  intro b2 h2 b4 h4
  have n24 : b2 ≠ b4:=by rintro rfl; simp [af] at h4
  simp [go_sem,hf,n24,n24.symm,af,ae,ar]
  refine ⟨?_,fun h1 h2=>by
   rcases c1' with c | c
   ·exact absurd c h1
   ·omega⟩
  refine fO 3 (by simp [go_sem,af]) ((hold b2 b4 _ _ _ h2 h4).aN h2 _) ?_
  simp [go_sem,af,dA]
  exact j7 3 hz
 have c2 : ¬ L = []:=fun h=>c1 (.inl h)
 have c3 : (L.length : Int) <= 16:=by have : ¬ 16 < L.length:=fun h=>c1 (.inr h); omega
 have c4 : ¬ (16 : Int) < (L.length : Int):=by omega
 cases ha : L.any hZ
 rotate_left
 ·have hz : jJ L = 7:=by
   unfold jJ
   rw [if_neg,ha]
   ·rfl
   ·rintro (h | h)
    ·exact c2 (List.length_eq_zero_iff.1 h)
    ·omega
  simp [go_sem,Zk,hf,c2,c3,c4]
  intro b2 h2 b4 h4
  have n24 : b2 ≠ b4:=by rintro rfl; simp [af] at h4
  refine ag (rj L hl _) ?_
  rw [ha]
  simp [go_sem,hf,n24,n24.symm,af,ae,ar]
  refine fO 3 (by simp [go_sem,af]) ((hold b2 b4 _ _ _ h2 h4).aN h2 _) ?_
  simp [go_sem,af,dA]
  exact j7 7 hz
 ·have hz : jJ L = 0:=by
   unfold jJ
   rw [if_neg,ha]
   ·rfl
   ·rintro (h | h)
    ·exact c2 (List.length_eq_zero_iff.1 h)
    ·omega
  simp [go_sem,Zk,hf,c2,c3,c4]
  intro b2 h2 b4 h4
  have n24 : b2 ≠ b4:=by rintro rfl; simp [af] at h4
  refine ag (rj L hl _) ?_
  rw [ha]
  simp [go_sem,hf,n24,n24.symm,af,ae,ar]
  have Zr : bx b4 = none:=by
   by_cases e : b4 = b2
   ·rw [e,h2]
   ·rwa [ae _ _ e] at h4
  refine ji (ι:=V × aa) L.length (fun k p=>bj p.2 /\ Ext bx p.2 /\ p.2 b2 = some (.row 57 3 [ew .aI]) /\ p.2 b4 = some (.row 57 3 [ew p.1]) /\ bd p.2 154 11 ((L.take k).map iZ) p.1 /\ ll bx p.1) (fun k p=>⟨36,bR [(2,.ptr b2 3 0 0),(4,.ptr b4 3 0 0),(21,.sl 4 (L.map bT)),(22,.int .i64 L.length),(23,.int .i64 k)],p.2⟩) (.aI,aA (aA bx b2 (some (.row 57 3 [ew .aI]))) b4 (some (.row 57 3 [ew .aI]))) ⟨(ar _ _ _).2 ((ar _ _ _).2 hf),hold b2 b4 _ _ _ h2 h4,by dsimp only; rw [ae _ _ n24,af],af _ _ _,.inl ⟨by simp,rfl⟩,fun b sz o m e=>by cases e⟩ (al (by simp [go_sem,ew,iI])) (fun k p hk hJ N hN=>?_) (fun p hJ N=>?_)
  ·obtain ⟨v,bM⟩:=p
   obtain ⟨bg,jg,c9,xN,ho,hn⟩:=hJ
   dsimp only at bg jg c9 xN ho hn ⊢
   have hw:=bt (k:=k) (by omega)
   simp [go_sem,FK,hk,bg,c9,xN,ew,bT,iI,ho.strip,ho.live,ho.okV,ho.cells]
   intro b6 h6
   have e6 : aA bM b6 none = bM:=by
    funext c
    by_cases e : c = b6
    ·rw [e,af,h6]
    ·rw [ae _ _ e]
   rw [e6]
   simp [go_sem,bg,xN,ew,iI,ho.strip,ho.live,ho.okV,ho.cells]
   intro b5 h5
   have n45 : b4 ≠ b5:=by rintro rfl; rw [xN] at h5; cases h5
   have n25 : b2 ≠ b5:=by rintro rfl; rw [c9] at h5; cases h5
   have QE : bd (aA bM b5 (some (.row 154 11 [iZ L[k]]))) 154 11 ((L.take k).map iZ) v:=by
    rcases ho with h | ⟨b,hv,hb⟩
    ·exact .inl h
    ·exact .inr ⟨b,hv,by rw [ae _ _ (by rintro rfl; rw [hb] at h5; cases h5),hb]⟩
   have pE : bj (aA bM b5 (some (.row 154 11 [iZ L[k]]))):=(ar _ _ _).2 bg
   have adk : bx b5 = none:=jg.none h5
   have JD : Ext bx (aA bM b5 (some (.row 154 11 [iZ L[k]]))):=jg.aN adk _
   have JE : aA bM b5 (some (.row 154 11 [iZ L[k]])) b4 = some (.row 57 3 [ew v]):=by rw [ae _ _ n45,xN]
   have JF : aA bM b5 (some (.row 154 11 [iZ L[k]])) b2 = some (.row 57 3 [ew .aI]):=by rw [ae _ _ n25,c9]
   have W2 : aA bM b5 (some (.row 154 11 [iZ L[k]])) b5 = some (.row 154 11 [iZ L[k]]):=af _ _ _
   simp only [iZ,iI] at QE pE JD JE JF W2
   generalize aA bM b5 (some (bI.row 154 11 [V.agg [V.int .i64 L[k].max,V.int .i64 L[k].queue,V.int .i64 L[k].idle,V.int .i64 L[k].xu,.aI,.aI,.aI,.aI,.bool true,V.int .i64 0,V.int .i64 0]])) = kd at *
   refine ey (.agg #[.int .i64 0,.int .i64 0,.int .i64 0,.int .i64 0,.slice none 0 0,.slice none 0 0,.slice none 0 0,.slice none 0 0,.bool false,.int .i64 0,.int .i64 0]) QE pE (news:=[iZ L[k]]) KP FD (by simp [go_sem,bP,W2,iZ,iI]) zh (by simp [go_sem]) (by decide) (by simp [FE]; omega) (by simp; omega) (by simp [go_sem]) fun v' bx' ha hm _=>?_
   obtain ⟨e1,e2⟩:=hm.base JD hn
   have O3 : ∀ sz o m,v ≠ .own b4 sz o m:=QE.ne JE (by decide)
   have AH : ∀ sz o m,v ≠ .own b2 sz o m:=QE.ne JF (by decide)
   have GF : bx' b4 = _:=(hm.other (by rw [JE]; simp) O3).trans JE
   have uo : bx' b2 = _:=(hm.other (by rw [JF]; simp) AH).trans JF
   have fA : bd bx' 154 11 ((L.take (k + 1)).map iZ) v':=by
    rw [List.take_succ_eq_append_getElem hk,List.map_append]; exact ha
   simp [go_sem,GF,uo,hm.fin,ha.strip,ha.live,ha.cells,ha.okV,ew,iI,hw]
   exact hN _ (v',aA bx' b4 (some (.row 57 3 [ew v']))) ⟨(ar _ _ _).2 hm.fin,e1.aN Zr _,by dsimp only; rw [ae _ _ n24,uo],af _ _ _,fA.put GF (by decide) _,e2⟩ (al (by simp [go_sem,ew,iI]))
  ·obtain ⟨v,bM⟩:=p
   obtain ⟨bg,jg,c9,xN,ho,hn⟩:=hJ
   dsimp only at bg jg c9 xN ho hn ⊢
   rw [List.take_of_length_le (Nat.le_refl _)] at ho
   have n24' : b2 ≠ b4:=n24
   have adl : bx b2 = none:=h2
   simp [go_sem,FK,bg,c9,xN,ew,iI,ho.strip,ho.live,ho.okV,ho.cells]
   refine fO 3 (by simp [go_sem,af]) (jg.aN adl _) ?_
   have rC : ∃ w,(w = .aI \/ ∃ es,w = .sl 11 es) /\ dA (aA bM b2 (some (bI.row 57 3 [V.agg [V.int .i64 0,V.bool false,v]]))) bx 1 v = w:=by
    rcases ho with ⟨_,rfl⟩ | ⟨b,rfl,hb⟩
    ·exact ⟨.aI,.inl rfl,rfl⟩
    ·refine ⟨_,.inr ⟨_,rfl⟩,gb (bx:=aA bM b2 _) (by rw [ae _ _ (by rintro rfl; rw [c9] at hb; cases hb)]; exact hb) (hn _ _ _ _ rfl) (by decide) rfl⟩
   obtain ⟨w,jd,jN⟩:=rC
   have e3 : dA (aA bM b2 (some (bI.row 57 3 [V.agg [V.int IntKind.i64 0,V.bool false,v]]))) bx 3 (.dh [.agg [.int .i64 0,.bool false,v],.int .i64 0]) = .dh [ew w,.int .i64 0]:=by
    simp only [dA,List.map_cons,List.map_nil,jN,ew,iI]
   have e4 : kq prog ⟨36,bR [(2,V.ptr b2 3 0 0),(3,V.int .i64 0)],aA bM b2 (some (bI.row 57 3 [V.agg [V.int IntKind.i64 0,V.bool false,v]]))⟩ [.cell 2 57,.tmp 3] = .dh [.agg [.int .i64 0,.bool false,v],.int .i64 0]:=by simp [go_sem,af]
   rw [e4,e3,fe,hz]
   exact ⟨rfl,w,jd,rfl⟩
def eF (L : List fb) (most : Int) (l : List Ex) : V:=.agg [.sl 4 (L.map bT),iI most,.sl 8 (l.map fY)]
def dY (nb : Nat) (e : Ex) : Bool:=decide (e.ev.kind < 1) || decide (20 <= e.ev.kind) || xM (nd e.ev.kind.toNat) e.ev e.b nb
def bF (L : List fb) (most : Int) (l : List Ex) : Int × Int :=
 if jJ L ≠ 0 then (-1,jJ L) else if most < 0 \/ 20 < most then (-1,7) else if 2000 < l.length then (-1,3)
 else match l.findIdx? (dY L.length) with
  | some i=>(i,2)
  | none=>(0,0)
theorem Bh (k : Nat) : V.agg (List.take 6 (iY k).cells) = .agg (QD (nd k)):=rfl
theorem v7 (k : Nat) : (iY k).cells.length = 7:=rfl
def Zs : Ex:=⟨⟨0,0,0,0,0,0,0,false⟩,0⟩
theorem xO (L : List fb) (most : Int) (l : List Ex) (hL : L.length <= 1000000) (hl : l.length <= 4000000000000000000) (bx : aa) : ay prog 13 [eF L most l] bx (.dh [iI (bF L most l).1,iI (bF L most l).2]):=by
 obtain ⟨Kc,fe⟩ : ∃ Kc : V -> aa -> Prop,Kc = fun r bx'=>r = .dh [iI (bF L most l).1,iI (bF L most l).2] /\ bx' = bx:=⟨_,rfl⟩
 show aw _ _ _ _ (fun r bx'=>r = .dh [iI (bF L most l).1,iI (bF L most l).2] /\ bx' = bx)
 rw [<- fe]
 refine UH fun hf=>?_
 have fE : ∀ (i e : Int),bF L most l = (i,e) -> Kc (.dh [.int .i64 i,.int .i64 e]) bx:=fun i e he=>by rw [fe,he]; exact ⟨rfl,rfl⟩
 obtain ⟨R,hR⟩ : ∃ R,bF L most l = R:=⟨_,rfl⟩
 rw [hR] at fE
 unfold bF at hR
 simp [go_sem,C13,hf,eF]
 refine an (W0 L hL bx) ?_
 rintro r bM ⟨eU,w,hw,rfl⟩
 rw [eU]
 have hwc : w.cells = [w] /\ okV w = true /\ w.strip = w /\ w.ax = true:=by
  rcases hw with rfl | ⟨es,rfl⟩ <;> exact ⟨rfl,rfl,rfl,rfl⟩
 obtain ⟨w1,w2,w3,w4⟩:=hwc
 have hE : ∀ (b : Nat) (x : bI),bx b = none -> Ext bx (aA bx b (some x)):=fun b x hb=>(Ext.refl bx).aN hb _
 by_cases e1 : jJ L = 0
 rotate_left
 ·rw [if_pos e1] at hR
  simp [go_sem,hf,ew,w1,w2,w3,w4,iI,e1]
  intro b hb
  exact bC (by simp [go_sem]) (hE _ _ hb) (by simp [go_sem]; exact fE _ _ hR.symm)
 rw [if_neg (by simpa using e1)] at hR
 by_cases c2 : most < 0 \/ 20 < most
 ·rw [if_pos c2] at hR
  simp [go_sem,hf,ew,w1,w2,w3,w4,iI,e1,c2]
  intro b hb
  refine ⟨bC (by simp [go_sem]) (hE _ _ hb) (by simp [go_sem]; exact fE _ _ hR.symm),fun h1 h2=>?_⟩
  omega
 rw [if_neg c2] at hR
 have c3 : ¬ most < 0:=fun h=>c2 (.inl h)
 have c4 : most <= 20:=by have : ¬ 20 < most:=fun h=>c2 (.inr h); omega
 by_cases c5 : 2000 < l.length
 ·rw [if_pos c5] at hR
  have c5' : (2000 : Int) < (l.length : Int):=by omega
  simp [go_sem,hf,ew,w1,w2,w3,w4,iI,e1,c3,c4,c5']
  intro b hb
  refine ⟨fun h=>by omega,bC (by simp [go_sem]) (hE _ _ hb) (by simp [go_sem]; exact fE _ _ hR.symm)⟩
 rw [if_neg c5] at hR
 have c5' : ¬ (2000 : Int) < (l.length : Int):=by omega
 simp [go_sem,hf,ew,w1,w2,w3,w4,iI,e1,c3,c4,c5']
 intro b hb
 refine ⟨fun h=>by omega,?_⟩
 refine an (CF _) ?_
 rintro r bx2 ⟨b7,h7,rfl,mh⟩
 have di : Ext bx bx2:=by
  rw [mh]
  have h70 : bx b7 = none:=(hE b (.row 57 3 [.agg [.int .i64 0,.bool false,w]]) hb).none h7
  exact (hE b _ hb).aN h70 _
 obtain ⟨RL,O4⟩ : ∃ RL,(List.range 20).map iY = RL:=⟨_,rfl⟩
 have hr7 : bx2 b7 = some (.row 86 7 RL):=by rw [mh,af,<- O4]; rfl
 have HO : RL.length = 20:=by rw [<- O4]; rfl
 have hRn : ∀ n,n < 20 -> RL[n]? = some (iY n):=fun n hn=>by rw [<- O4,List.getElem?_map,List.getElem?_range hn]; rfl
 have hRg : ∀ n (h : n < RL.length),n < 20 -> RL[n] = iY n:=fun n h hn=>by have:=hRn n hn; rw [List.getElem?_eq_getElem h] at this; injection this
 have da : bj bx2:=by rw [mh]; exact (ar _ _ _).2 ((ar _ _ _).2 hf)
 clear mh
 simp [go_sem,da]
 refine eP l.length (fun i=>dY L.length (l.getD i Zs)) (fun i=>⟨66,bR [(1,.ep (.agg [.sl 4 (L.map bT),.int .i64 most,.sl 8 (l.map fY)]) 0),(6,.own b7 7 0 20),(34,.sl 8 (l.map fY)),(35,.int .i64 l.length),(36,.int .i64 i)],bx2⟩) (al (by simp [go_sem])) (fun i hi hJ N hN=>?_) (fun hJ N=>?_)
 ·have hg : l.getD i Zs = l[i]:=by simp [hi]
  rw [hg] at hN
  have hw:=bt (k:=i) (by omega)
  have GG : dY L.length l[i] = true -> R = ((i : Int),(2 : Int)):=by
   intro Ad
   rw [<- hR]
   have : l.findIdx? (dY L.length) = some i:=by
    rw [List.findIdx?_eq_some_iff_getElem]
    refine ⟨hi,Ad,fun j hj=>?_⟩
    have h1:=hJ j hj
    have h2 : j < l.length:=by omega
    simp [h2] at h1
    simp [h1]
   rw [this]
  have zF : ∀ b,bx2 b = none -> aA bx2 b none = bx2:=fun b hb=>by
   funext c
   by_cases e : c = b
   ·rw [e,af,hb]
   ·rw [ae _ _ e]
  by_cases k1 : l[i].ev.kind < 1
  ·have Ad : dY L.length l[i] = true:=by simp [dY,k1]
   simp [go_sem,zi,da,hi,fY,dL,iI,k1]
   intro b hb
   rw [zF b hb]
   refine jI (.bool false) (by simp [go_sem]) ?_
   simp [go_sem,da]
   exact bC (by simp [go_sem]) di (by simp [go_sem]; exact fE _ _ (GG Ad))
  by_cases k2 : 20 <= l[i].ev.kind
  ·have Ad : dY L.length l[i] = true:=by simp [dY,k2]
   simp [go_sem,zi,da,hi,fY,dL,iI,k1,k2]
   intro b hb
   rw [zF b hb]
   refine jI (.bool false) (by simp [go_sem]) ?_
   simp [go_sem,da]
   exact bC (by simp [go_sem]) di (by simp [go_sem]; exact fE _ _ (GG Ad))
  obtain ⟨n,hn⟩ : ∃ n : Nat,l[i].ev.kind = n:=⟨l[i].ev.kind.toNat,by omega⟩
  have O5 : n < 20:=by omega
  have k3 : ¬ (n : Int) < 1:=by omega
  have k4 : ¬ (20 : Int) <= n:=by omega
  have k5 : (n : Int) < 20:=by omega
  have k6 : (1 : Int) <= n:=by omega
  simp [go_sem,zi,da,hi,fY,dL,iI,hn,k3,k4,k5,k6]
  intro b hb
  rw [zF b hb]
  simp [go_sem,da,hr7,O5,HO,hRg,v7,Bh]
  have evh : V.agg [V.int .i64 n,V.int .i64 l[i].b,V.int .i64 l[i].ev.t,V.int .i64 l[i].ev.call,V.int .i64 l[i].ev.conn,V.int .i64 l[i].ev.jQ,V.int .i64 l[i].ev.n,V.bool l[i].ev.yes] = dL l[i].ev l[i].b:=by simp [dL,iI,hn]
  rw [evh]
  refine dn (Wz (nd n) l[i].ev l[i].b L.length bx2) (by simp [go_sem]) (by simp [go_sem]) ?_
  have he : dY L.length l[i] = xM (nd n) l[i].ev l[i].b L.length:=by
   unfold dY
   rw [hn]
   simp [k3,k4]
  cases c9 : xM (nd n) l[i].ev l[i].b L.length
  ·rw [c9] at he
   simp [go_sem,da,hw]
   exact hN _ he (al (by simp [go_sem]))
  ·rw [c9] at he
   simp [go_sem,da]
   exact bC (by simp [go_sem]) di (by simp [go_sem]; exact fE _ _ (GG he))
 ·have hz : R = (0,0):=by
   rw [<- hR]
   have : l.findIdx? (dY L.length) = none:=by
    rw [List.findIdx?_eq_none_iff]
    intro x hx
    obtain ⟨i,hi,rfl⟩:=List.getElem_of_mem hx
    have:=hJ i hi
    simpa [hi] using this
   rw [this]
  simp [go_sem,zi,da]
  exact bC (by simp [go_sem]) di (by simp [go_sem]; exact fE _ _ hz)
def bS (w : RW) : List Int:=w.aD.map (·.call)
structure E4 (w : RW) : Prop where
 c : ∀ c,c ∈ w.ak -> c.st = 1 -> c.call ∈ bS w
 d : ∀ b,b ∈ w.ah -> ∀ n,n ∈ b.au -> n ∈ bS w
 q : ∀ b,b ∈ w.ah -> ∀ n,n ∈ b.waits -> n ∈ bS w
theorem zG (w : RW) (n : Int) : (∃ j,dp w n = some j) ↔ n ∈ bS w:=by
 unfold dp bS
 constructor
 ·rintro ⟨j,h⟩
  rw [List.findIdx?_eq_some_iff_getElem] at h
  obtain ⟨hj,h1,_⟩:=h
  simp at h1
  rw [<- h1]
  exact List.mem_map.2 ⟨_,List.getElem_mem hj,rfl⟩
 ·intro h
  obtain ⟨r,hr,rfl⟩:=List.mem_map.1 h
  cases hc : w.aD.findIdx? (fun x=>x.call == r.call) with
  | some j=>exact ⟨j,rfl⟩
  | none =>
    rw [List.findIdx?_eq_none_iff] at hc
    have:=hc r hr
    simp at this
theorem E4.begun {w : RW} (h : E4 w) : C6 w:=fun c hc h1=>(zG w c.call).2 (h.c c hc h1)
structure dZ (f c r q : Nat) (w w' : RW) : Prop where
 ky : w'.ky = w.ky
 aL : w'.aL = w.aL
 most : w'.most = w.most
 len : w'.ah.length = w.ah.length
 aG : w'.aG.length <= w.aG.length + f
 ak : w'.ak.length <= w.ak.length + c
 aD : w'.aD.length <= w.aD.length + r
 GH : ∀ m,(∀ b,b ∈ w.ah -> b.waits.length <= m /\ b.au.length <= m) -> ∀ b,b ∈ w'.ah -> b.waits.length <= m + q /\ b.au.length <= m + q
 sub : ∀ n,n ∈ bS w -> n ∈ bS w'
 oS : E4 w -> E4 w'
 pre : w.aG <+: w'.aG
theorem dZ.refl (w : RW) : dZ 0 0 0 0 w w:=⟨rfl,rfl,rfl,rfl,Nat.le_refl _,Nat.le_refl _,Nat.le_refl _,fun m h=>h,fun _ h=>h,id,List.prefix_rfl⟩
theorem dZ.trans {f c r q f' c' r' q' : Nat} {w w' w'' : RW} (h : dZ f c r q w w') (h' : dZ f' c' r' q' w' w'') : dZ (f + f') (c + c') (r + r') (q + q') w w'' :=
 ⟨h'.ky.trans h.ky,h'.aL.trans h.aL,h'.most.trans h.most,h'.len.trans h.len,by have:=h.aG; have:=h'.aG; omega,by have:=h.ak; have:=h'.ak; omega,by have:=h.aD; have:=h'.aD; omega,
  fun m hm b hb=>by have:=h'.GH (m + q) (h.GH m hm) b hb; omega,fun n hn=>h'.sub n (h.sub n hn),fun hb=>h'.oS (h.oS hb),h.pre.trans h'.pre⟩
theorem dZ.le {f c r q f' c' r' q' : Nat} {w w' : RW} (h : dZ f c r q w w') (hf : f <= f') (hc : c <= c') (hr : r <= r') (hq : q <= q') : dZ f' c' r' q' w w' :=
 ⟨h.ky,h.aL,h.most,h.len,by have:=h.aG; omega,by have:=h.ak; omega,by have:=h.aD; omega,fun m hm b hb=>by have:=h.GH m hm b hb; omega,h.sub,h.oS,h.pre⟩
theorem dZ.fault (w : RW) (k : Int) : dZ 1 0 0 0 w (w.fault k) :=
 ⟨rfl,rfl,rfl,rfl,by simp [RW.fault],Nat.le_refl _,Nat.le_refl _,fun m h=>h,fun _ h=>h,fun h=>⟨h.c,h.d,h.q⟩,by simp [RW.fault]⟩
theorem dZ.ai (w : RW) (c : Bool) (k : Int) : dZ 1 0 0 0 w (w.ai c k):=by
 unfold RW.ai
 split
 ·exact dZ.fault w k
 ·exact (dZ.refl w).le (by omega) (by omega) (by omega) (by omega)
theorem v8 {w : RW} {i : Nat} {r : RR} (h : ∀ r0,w.aD[i]? = some r0 -> r.call = r0.call) : bS (w.dO i r) = bS w:=by
 unfold bS RW.dO
 apply List.ext_getElem?
 intro j
 rw [List.getElem?_map,List.getElem?_map,List.getElem?_set]
 by_cases e : i = j
 ·subst e
  cases hr : w.aD[i]? with
  | none =>
    have : ¬ i < w.aD.length:=fun hi=>by rw [List.getElem?_eq_getElem hi] at hr; cases hr
    simp [this]
  | some r0 =>
    have hi : i < w.aD.length:=(List.getElem?_eq_some_iff.1 hr).1
    simp [hi,h r0 hr]
 ·simp [e]
theorem dZ.dO (w : RW) (i : Nat) (r : RR) (h : ∀ r0,w.aD[i]? = some r0 -> r.call = r0.call) : dZ 0 0 0 0 w (w.dO i r):=by
 have hc:=v8 h
 exact ⟨rfl,rfl,rfl,rfl,Nat.le_refl _,Nat.le_refl _,by simp [RW.dO],fun m h=>h,fun n hn=>by rw [hc]; exact hn,fun hb=>⟨fun c h1 h2=>by rw [hc]; exact hb.c c h1 h2,fun b h1 n h2=>by rw [hc]; exact hb.d b h1 n h2,fun b h1 n h2=>by rw [hc]; exact hb.q b h1 n h2⟩,List.prefix_rfl⟩
theorem dZ.ba (w : RW) (i : Nat) (c : RC) (h : c.st = 1 -> E4 w -> c.call ∈ bS w) : dZ 0 0 0 0 w (w.ba i c) :=
 ⟨rfl,rfl,rfl,rfl,Nat.le_refl _,by simp [RW.ba],Nat.le_refl _,fun m h=>h,fun n hn=>hn,fun hb=>⟨fun d h1 h2=>by
  rcases List.mem_or_eq_of_mem_set h1 with h1 | rfl
  ·exact hb.c d h1 h2
  ·exact h h2 hb,hb.d,hb.q⟩,List.prefix_rfl⟩
theorem dZ.aO (w : RW) (i : Nat) (x : RB) (q : Nat) (h : ∀ b,w.ah[i]? = some b -> x.waits.length <= b.waits.length + q /\ x.au.length <= b.au.length + q) (hd : E4 w -> ∀ b,w.ah[i]? = some b -> (∀ n,n ∈ x.au -> n ∈ bS w) /\ (∀ n,n ∈ x.waits -> n ∈ bS w)) : dZ 0 0 0 q w (w.aO i x):=by
 have hm : ∀ b,b ∈ (w.aO i x).ah -> b ∈ w.ah \/ (b = x /\ ∃ b0,w.ah[i]? = some b0):=by
  intro b hb
  unfold RW.aO at hb
  by_cases hi : i < w.ah.length
  ·rcases List.mem_or_eq_of_mem_set hb with hb | rfl
   ·exact .inl hb
   ·exact .inr ⟨rfl,_,List.getElem?_eq_getElem hi⟩
  ·simp only [List.set_eq_of_length_le (Nat.le_of_not_lt hi)] at hb
   exact .inl hb
 refine ⟨rfl,rfl,rfl,by simp [RW.aO],Nat.le_refl _,Nat.le_refl _,Nat.le_refl _,fun m h1 b hb=>?_,fun n hn=>hn,fun hb=>⟨hb.c,fun b h1 n h2=>?_,fun b h1 n h2=>?_⟩,List.prefix_rfl⟩
 ·rcases hm b hb with hb | ⟨rfl,b0,h0⟩
  ·have:=h1 b hb; omega
  ·have:=h b0 h0
   have:=h1 b0 (List.mem_of_getElem? h0)
   omega
 ·rcases hm b h1 with h1 | ⟨rfl,b0,h0⟩
  ·exact hb.d b h1 n h2
  ·exact (hd hb b0 h0).1 n h2
 ·rcases hm b h1 with h1 | ⟨rfl,b0,h0⟩
  ·exact hb.q b h1 n h2
  ·exact (hd hb b0 h0).2 n h2
theorem dZ.CG (w : RW) (i : Nat) (x : RB) (h : ∀ b,w.ah[i]? = some b -> x.waits = b.waits /\ x.au = b.au) : dZ 0 0 0 0 w (w.aO i x) :=
 dZ.aO w i x 0 (fun b hb=>by rw [(h b hb).1,(h b hb).2]; omega) fun hg b hb=>by rw [(h b hb).1,(h b hb).2]; exact ⟨hg.d b (List.mem_of_getElem? hb),hg.q b (List.mem_of_getElem? hb)⟩
theorem dG {α : Type} {l : List α} {i : Nat} {d b : α} (h : l[i]? = some b) : l.getD i d = b:=by rw [List.getD_eq_getElem?_getD,h]; rfl
theorem pM (l : List Int) (n : Int) : (aY l n).length <= l.length:=List.length_filter_le _ _
theorem mM {l : List Int} {n m : Int} (h : m ∈ aY l n) : m ∈ l:=(List.mem_filter.1 h).1
theorem qt {w : RW} {n b : Int} (h : jj w n b = true) : n ∈ bS w:=by
 unfold jj at h
 simp only [Bool.and_eq_true] at h
 obtain ⟨i,hi,_⟩:=oI h.1
 exact (zG w n).1 ⟨i,hi⟩
theorem dZ.up {f c r q : Nat} {w w' : RW} (h : dZ f c r q w w') (h1 : f <= 3:=by omega) (h2 : c <= 1:=by omega) (h3 : r <= 1:=by omega) (h4 : q <= 1:=by omega) : dZ 3 1 1 1 w w':=h.le h1 h2 h3 h4
theorem l4 (w : RW) : dZ 3 1 1 1 w w:=(dZ.refl w).up
theorem zH (w : RW) (c : Bool) (k : Int) : (w.ai c k).ah = w.ah:=by unfold RW.ai; split <;> rfl
theorem rk (w : RW) (c : Bool) (k : Int) : (w.ai c k).aD = w.aD:=by unfold RW.ai; split <;> rfl
theorem GJ (w : RW) (x : Ev) : dZ 3 1 1 1 w (qY w x).1:=by
 unfold qY
 split
 ·dsimp only
  have h1:=dZ.ai w ((w.ah.getD x.bk gx).down || decide ((w.ah.getD x.bk gx).gL = 1)) 7
  generalize jd : w.ai ((w.ah.getD x.bk gx).down || decide ((w.ah.getD x.bk gx).gL = 1)) 7 = w1 at *
  have eU : w1.ah = w.ah:=by rw [<- jd]; exact zH _ _ _
  have lJ : w1.aD = w.aD:=by rw [<- jd]; exact rk _ _ _
  have h2 : dZ 1 0 0 0 w1 (if (w.ah.getD x.bk gx).gL = 2 then (w1.ai (decide ((w.ah.getD x.bk gx).aK ≠ 0) && decide ((w.ah.getD x.bk gx).aK ≠ x.call)) 8).aO x.bk { w.ah.getD x.bk gx with aK:=x.call } else w1):=by
   split
   ·refine ((dZ.ai w1 _ 8).trans (dZ.CG _ _ _ fun b hb=>?_)).le (by omega) (by omega) (by omega) (by omega)
    rw [zH,eU] at hb
    rw [dG hb]
    exact ⟨rfl,rfl⟩
   ·exact (dZ.refl w1).le (by omega) (by omega) (by omega) (by omega)
  have rR : (if (w.ah.getD x.bk gx).gL = 2 then (w1.ai (decide ((w.ah.getD x.bk gx).aK ≠ 0) && decide ((w.ah.getD x.bk gx).aK ≠ x.call)) 8).aO x.bk { w.ah.getD x.bk gx with aK:=x.call } else w1).aD = w.aD:=by
   split
   ·rw [<- lJ]; exact rk _ _ _
   ·exact lJ
  generalize (if (w.ah.getD x.bk gx).gL = 2 then (w1.ai (decide ((w.ah.getD x.bk gx).aK ≠ 0) && decide ((w.ah.getD x.bk gx).aK ≠ x.call)) 8).aO x.bk { w.ah.getD x.bk gx with aK:=x.call } else w1) = w2 at *
  refine ((h1.trans h2).trans ((dZ.ai w2 _ 10).trans (dZ.dO _ _ _ fun r0 h0=>?_))).up
  rw [rk,rR] at h0
  rw [dG h0]
 ·exact l4 w
theorem GK (w : RW) (x : Ev) : dZ 3 1 1 1 w (er w x).1:=by
 unfold er
 dsimp only
 split
 ·split
  ·rename_i hm
   refine ((dZ.aO w _ _ 1 (fun b hb=>?_) fun hg b hb=>?_).trans (dZ.ai _ _ 3)).up
   ·rw [dG hb]; simp
   ·have yi:=List.mem_of_getElem? hb
    rw [dG hb]
    refine ⟨hg.d b yi,fun n hn=>?_⟩
    rcases List.mem_append.1 hn with hn | hn
    ·exact hg.q b yi n hn
    ·rw [List.mem_singleton.1 hn]; exact qt hm
  ·exact l4 w
 ·split
  ·split
   ·refine (dZ.aO w _ _ 0 (fun b hb=>?_) fun hg b hb=>?_).up
    ·rw [dG hb]; have:=pM b.waits x.call; dsimp only; omega
    ·have yi:=List.mem_of_getElem? hb
     rw [dG hb]
     exact ⟨hg.d b yi,fun n hn=>hg.q b yi n (mM hn)⟩
   ·exact l4 w
  ·split
   ·split
    ·rename_i hm
     have h1:=dZ.ai w (fj w x) 9
     have eU:=zH w (fj w x) 9
     have lJ:=rk w (fj w x) 9
     generalize w.ai (fj w x) 9 = w1 at *
     have e : (w1.aO x.bk { w.ah.getD x.bk gx with waits:=aY (w.ah.getD x.bk gx).waits x.call }).aO x.bk { w.ah.getD x.bk gx with waits:=aY (w.ah.getD x.bk gx).waits x.call,au:=(w.ah.getD x.bk gx).au ++ [x.call] } = w1.aO x.bk { w.ah.getD x.bk gx with waits:=aY (w.ah.getD x.bk gx).waits x.call,au:=(w.ah.getD x.bk gx).au ++ [x.call] }:=by
      simp [RW.aO]
     rw [e]
     have jn : bS w1 = bS w:=by unfold bS; rw [lJ]
     refine ((h1.trans (dZ.aO w1 _ _ 1 (fun b hb=>?_) fun hg b hb=>?_)).trans (dZ.ai _ _ 2)).up
     ·rw [eU] at hb
      rw [dG hb]; have:=pM b.waits x.call; simp; omega
     ·have yi:=List.mem_of_getElem? hb
      have c9:=hb
      rw [eU] at c9
      rw [dG c9]
      refine ⟨fun n hn=>?_,fun n hn=>hg.q b yi n (mM hn)⟩
      rcases List.mem_append.1 hn with hn | hn
      ·exact hg.d b yi n hn
      ·rw [List.mem_singleton.1 hn]
       rcases hm with hm | hm
       ·rw [dG c9] at hm
        exact hg.q b yi _ hm
       ·rw [jn]; exact qt hm
    ·exact l4 w
   ·split
    ·refine (dZ.aO w _ _ 0 (fun b hb=>?_) fun hg b hb=>?_).up
     ·rw [dG hb]; have:=pM b.au x.call; dsimp only; omega
     ·have yi:=List.mem_of_getElem? hb
      rw [dG hb]
      exact ⟨fun n hn=>hg.d b yi n (mM hn),hg.q b yi⟩
    ·exact l4 w
theorem dZ.Oa (w : RW) (c : RC) (h : c.st = 1 -> E4 w -> c.call ∈ bS w) : dZ 0 1 0 0 w { w with ak:=w.ak ++ [c] } :=
 ⟨rfl,rfl,rfl,rfl,Nat.le_refl _,by simp,Nat.le_refl _,fun m h=>h,fun n hn=>hn,fun hb=>⟨fun d h1 h2=>by
  rcases List.mem_append.1 h1 with h1 | h1
  ·exact hb.c d h1 h2
  ·rw [List.mem_singleton.1 h1] at h2 ⊢; exact h h2 hb,hb.d,hb.q⟩,List.prefix_rfl⟩
theorem GL (w : RW) (x : Ev) (hx : x.bk < w.ah.length) (hg : E4 w) : dZ 3 1 1 1 w (pI w x).1:=by
 have dD : w.ah[x.bk]? = some w.ah[x.bk]:=List.getElem?_eq_getElem hx
 have HW:=List.getElem_mem hx
 unfold pI
 dsimp only
 rw [dG dD]
 generalize w.ah[x.bk] = B at *
 split
 ·rename_i hm
  split
  ·exact l4 w
  ·refine ((dZ.aO w _ { B with au:=aY B.au x.call } 0 (fun b hb=>?_) fun _ b hb=>⟨fun n hn=>hg.d B HW n (mM hn),fun n hn=>hg.q B HW n hn⟩).trans (dZ.Oa _ _ fun h1 _=>?_)).up
   ·rw [dD] at hb; injection hb with hb; subst hb
    have:=pM B.au x.call; dsimp only; omega
   ·have : x.call ∈ bS w:=hg.d _ HW _ hm
    split
    ·exact this
    ·rename_i hy; rw [if_neg hy] at h1; cases h1
 ·exact l4 w
theorem Ea (w : RW) (x : Ev) (hx : x.bk < w.ah.length) (hg : E4 w) : dZ 3 1 1 1 w (ly w x).1:=by
 have dD : w.ah[x.bk]? = some w.ah[x.bk]:=List.getElem?_eq_getElem hx
 have HW:=List.getElem_mem hx
 unfold ly
 dsimp only
 rw [dG dD]
 generalize w.ah[x.bk] = B at *
 split
 ·rename_i hm
  split
  ·exact (dZ.fault w 4).up
  ·rename_i i hi
   split
   ·exact (dZ.fault w 4).up
   ·split
    ·exact (dZ.fault w 1).up
    ·have h1:=dZ.ai w (fj w x) 9
     have eU:=zH w (fj w x) 9
     have lJ:=rk w (fj w x) 9
     generalize w.ai (fj w x) 9 = w1 at *
     obtain ⟨C,hC⟩ : ∃ C,(decide ((w.aL.getD x.bk DU).xu <= ck (w.now - (w.ak.getD i yn).born)) || (decide ((w.ak.getD i yn).st = 2) && decide ((w.aL.getD x.bk DU).idle <= ck (w.now - (w.ak.getD i yn).since)))) = C:=⟨_,rfl⟩
     rw [hC]
     have h2:=dZ.ai w1 C 5
     have c9:=zH w1 C 5
     have rR:=rk w1 C 5
     generalize w1.ai C 5 = w2 at *
     have jn : bS w2 = bS w:=by unfold bS; rw [rR,lJ]
     refine ((h1.trans h2).trans ((dZ.aO w2 _ { B with waits:=aY B.waits x.call } 0 (fun b hb=>?_) fun _ b hb=>⟨fun n hn=>by rw [jn]; exact hg.d B HW n hn,fun n hn=>by rw [jn]; exact hg.q B HW n (mM hn)⟩).trans (dZ.ba _ _ _ fun _ _=>?_))).up
     ·rw [c9,eU,dD] at hb; injection hb with hb; subst hb
      have:=pM B.waits x.call; dsimp only; omega
     ·show x.call ∈ bS w2
      rw [jn]
      rcases hm with hm | hm
      ·exact hg.q _ HW _ hm
      ·exact qt hm
 ·exact l4 w
theorem GM (w : RW) (x : Ev) : dZ 3 1 1 1 w (lE w x).1:=by
 unfold lE
 split
 ·exact (dZ.fault w 4).up
 ·dsimp only
  split
  ·exact (dZ.fault w 4).up
  ·split
   ·split
    ·exact l4 w
    ·exact (dZ.ba w _ _ fun h1 _=>absurd (show (5 : Int) = 1 from h1) (by omega)).up
   ·split
    ·exact (dZ.fault w 1).up
    ·split
     ·exact l4 w
     ·exact (dZ.ba w _ _ fun h1 _=>absurd (show (2 : Int) = 1 from h1) (by omega)).up
theorem Bi (w : RW) (x : Ev) : dZ 3 1 1 1 w (jz w x).1:=by
 unfold jz
 split
 ·exact l4 w
 ·dsimp only
  split
  ·exact l4 w
  ·split
   ·exact (dZ.CG w _ _ fun b hb=>by rw [dG hb]; exact ⟨rfl,rfl⟩).up
   ·exact l4 w
theorem JG (w : RW) (x : Ev) (hg : E4 w) : dZ 3 1 1 1 w (rJ w x):=by
 unfold rJ
 split
 ·exact (dZ.fault w 4).up
 ·rename_i i hi
  obtain ⟨c,hc,h1,h2⟩:=G3 hi
  have y8:=List.mem_of_getElem? hc
  dsimp only
  rw [dG hc]
  split
  ·have hf:=dZ.ai w (decide (x.jQ ≠ x.call)) 6
   have lJ:=rk w (decide (x.jQ ≠ x.call)) 6
   generalize w.ai (decide (x.jQ ≠ x.call)) 6 = w1 at *
   refine (hf.trans (dZ.ba _ _ _ fun h1 _=>?_)).up
   show c.call ∈ bS w1
   have : bS w1 = bS w:=by unfold bS; rw [lJ]
   rw [this]
   exact hg.c c y8 h1
  ·split
   ·exact l4 w
   ·rename_i j hj
    obtain ⟨C,hC⟩ : ∃ C,(!(w.aD.getD j z1).idem && decide (0 < (w.aD.getD j z1).bK) && decide ((w.aD.getD j z1).bK < (w.aD.getD j z1).aM)) = C:=⟨_,rfl⟩
    rw [hC]
    have hf:=dZ.ai w C 10
    have lJ:=rk w C 10
    generalize w.ai C 10 = w1 at *
    have hs : ∀ r0,w1.aD[j]? = some r0 -> ({ w.aD.getD j z1 with bK:=(w.aD.getD j z1).aM } : RR).call = r0.call:=fun r0 h0=>by
     rw [lJ] at h0
     rw [dG h0]
    refine ((hf.trans (dZ.dO w1 j _ hs)).trans (dZ.ba _ _ _ fun h1 _=>?_)).up
    rw [v8 hs]
    show c.call ∈ bS w1
    have : bS w1 = bS w:=by unfold bS; rw [lJ]
    rw [this]
    exact hg.c c y8 h1
theorem Bj (w : RW) (x : Ev) : dZ 3 1 1 1 w (fQ w x).1:=by
 unfold fQ
 split
 ·split
  ·exact (dZ.dO w _ _ fun r0 h0=>by rw [dG h0]).up
  ·exact l4 w
 ·split
  ·split
   ·exact l4 w
   ·exact ⟨rfl,rfl,rfl,rfl,Nat.le_add_right _ _,Nat.le_add_right _ _,Nat.le_add_right _ _,fun m h b hb=>by have:=h b hb; omega,fun _ h=>h,fun h=>⟨h.c,h.d,h.q⟩,List.prefix_rfl⟩
  ·split
   ·exact (dZ.ai w _ 11).up
   ·exact l4 w
theorem zI (w : RW) (x : Ev) (hx : 2 <= x.kind -> x.kind <= 16 -> x.bk < w.ah.length) (hg : E4 w) : dZ 3 1 1 1 w (js w x).1:=by
 unfold js
 split
 ·split
  ·exact l4 w
  ·refine ⟨rfl,rfl,rfl,rfl,Nat.le_add_right _ _,Nat.le_add_right _ _,by simp,fun m h b hb=>by have:=h b hb; omega,fun n hn=>?_,fun h=>⟨fun c h1 h2=>?_,fun b h1 n h2=>?_,fun b h1 n h2=>?_⟩,List.prefix_rfl⟩
   ·exact by simp only [bS,List.map_append]; exact List.mem_append_left _ hn
   ·have:=h.c c h1 h2; simp only [bS,List.map_append]; exact List.mem_append_left _ this
   ·have:=h.d b h1 n h2; simp only [bS,List.map_append]; exact List.mem_append_left _ this
   ·have:=h.q b h1 n h2; simp only [bS,List.map_append]; exact List.mem_append_left _ this
 split
 ·exact GJ w x
 split
 ·exact GK w x
 split
 ·exact GL w x (hx (by omega) (by omega)) hg
 split
 ·exact Ea w x (hx (by omega) (by omega)) hg
 split
 ·exact JG w x hg
 split
 ·split
  ·exact l4 w
  ·rename_i i hi
   exact (dZ.ba w _ _ fun h1 _=>by
    cases hy : x.yes
    ·rw [hy] at h1; exact absurd (show (4 : Int) = 1 from h1) (by omega)
    ·rw [hy] at h1; exact absurd (show (3 : Int) = 1 from h1) (by omega)).up
 split
 ·exact GM w x
 split
 ·exact (dZ.CG w _ _ fun b hb=>by rw [dG hb]; exact ⟨rfl,rfl⟩).up
 split
 ·exact (dZ.CG w _ _ fun b hb=>by rw [dG hb]; exact ⟨rfl,rfl⟩).up
 split
 ·exact Bi w x
 ·exact Bj w x
end Go.Proofs
