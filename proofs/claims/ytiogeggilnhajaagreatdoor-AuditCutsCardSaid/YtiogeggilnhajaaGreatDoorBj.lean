/- Texts of the proof, put together: UP, VS, VT, VU, VV, VW, VX, VY, XA, XB. -/
import Derived.Test.YtiogeggilnhajaaGreatDoorBi
import Derived.Test.YtiogeggilnhajaaGreatDoorBe
import Derived.Deep.RegionLaw
import Derived.Below
set_option maxHeartbeats 8000000
set_option linter.unusedSimpArgs false
set_option linter.unusedVariables false
set_option maxRecDepth 100000
namespace Go.Proofs
open Go Go.Pl Tryz
def lM (w:RW) (i:Nat) (x:Ev):RW :=
 let w0:RW:={ w with ev:=(i:Int) }
 let w1:=if x.t < w.now then w0.fault 12 else { w0 with now:=x.t }
 let s:=j4 w1 x
 let w3:=if s.2 then s.1 else s.1.fault 13
 { w3 with aI:=w3.aI.take w.aI.length ++ dK (w3.aI.drop w.aI.length) }
def runN (w:RW) (l:List Ex):Nat -> RW
 | 0=>w
 | k + 1=>match l[k]? with
   | some e=>lM (runN w l k) k e.ev
   | none=>runN w l k
def VE (nb:Nat) (e:Ex):Prop:=1 <= e.ev.kind /\ e.ev.kind <= 19 /\ (2 <= e.ev.kind -> e.ev.kind <= 16 -> e.b = e.ev.bk /\ e.ev.bk < nb)
structure Gd (l:List Ex) (L:List eR) (k:Nat) (w:RW):Prop where
 kO:w.kO = l
 aN:w.aN = L
 len:w.ai.length = L.length
 aI:w.aI.length <= 5 * k
 aq:w.aq.length <= k
 aE:w.aE.length <= k
 Hp:∀ b,b ∈ w.ai -> b.waits.length <= k /\ b.ax.length <= k
 pz:ER w
theorem Ag {l l':List (Int × Int)} (h:l <+: l'):(l'.take l.length ++ dK (l'.drop l.length)).length = l'.length:=by
 have:=h.length_le
 rw [List.length_append,lf,List.length_take,List.length_drop]
 omega
theorem Gd.ev {l:List Ex} {L:List eR} {k:Nat} {w:RW} (h:Gd l L k w) (i:Int):Gd l L k { w with ev:=i }:=⟨h.kO,h.aN,h.len,h.aI,h.aq,h.aE,h.Hp,⟨h.pz.c,h.pz.d,h.pz.q⟩⟩
theorem BB {l:List Ex} {L:List eR} {k:Nat} {w:RW} (h:Gd l L k w) (i:Nat) (e:Ex) (hv:VE L.length e):Gd l L (k + 1) (lM w i e.ev):=by
 have h0:eo 1 0 0 0 w (if e.ev.t < w.now then ({ w with ev:=(i:Int) }:RW).fault 12 else { w with ev:=(i:Int),now:=e.ev.t }):=by
  split
  ·exact ⟨rfl,rfl,rfl,rfl,by simp [RW.fault],Nat.le_refl _,Nat.le_refl _,fun m h=>h,fun n hn=>hn,fun h=>⟨h.c,h.d,h.q⟩,by simp [RW.fault]⟩
  ·exact ⟨rfl,rfl,rfl,rfl,Nat.le_add_right _ _,Nat.le_refl _,Nat.le_refl _,fun m h=>h,fun n hn=>hn,fun h=>⟨h.c,h.d,h.q⟩,List.prefix_rfl⟩
 unfold lM
 dsimp only
 generalize (if e.ev.t < w.now then ({ w with ev:=(i:Int) }:RW).fault 12 else { w with ev:=(i:Int),now:=e.ev.t }) = w1 at *
 have h1:=Af w1 e.ev (fun a b=>by rw [h0.len,h.len]; exact (hv.2.2 a b).2) (h0.pz h.pz)
 generalize j4 w1 e.ev = s at *
 have h2:eo 1 0 0 0 s.1 (if s.2 then s.1 else s.1.fault 13):=by
  split
  ·exact (eo.refl _).le (by omega) (by omega) (by omega) (by omega)
  ·exact eo.fault _ _
 generalize (if s.2 then s.1 else s.1.fault 13) = w3 at *
 have hh:=(h0.trans h1).trans h2
 have hp:=Ag hh.pre
 have hb:=hh.pz h.pz
 exact ⟨hh.kO.trans h.kO,hh.aN.trans h.aN,hh.len.trans h.len,by have:=hh.aI; have:=h.aI; dsimp only; rw [hp]; omega,by have:=hh.aq; have:=h.aq; dsimp only; omega,by have:=hh.aE; have:=h.aE; dsimp only; omega,fun b hb=>by have:=hh.Hp k h.Hp b hb; omega,⟨hb.c,hb.d,hb.q⟩⟩
theorem qq {l:List Ex} {L:List eR} {w:RW} (h:Gd l L 0 w) (hv:∀ e,e ∈ l -> VE L.length e):∀ k,Gd l L k (runN w l k)
 | 0=>h
 | k + 1=>by
   have ih:=qq h hv k
   unfold runN
   split
   ·rename_i e he
    exact BB ih k e (hv e (List.mem_of_getElem? he))
   ·exact ⟨ih.kO,ih.aN,ih.len,by have:=ih.aI; omega,by have:=ih.aq; omega,by have:=ih.aE; omega,fun b hb=>by have:=ih.Hp b hb; omega,ih.pz⟩
theorem Xr {aD bx:aa} {n:RN} {w:RW} (h:WR aD n w bx) {l:List Ex} {L:List eR} (hg:Gd l L 0 w) (hv:∀ e,e ∈ l -> VE L.length e) (hl:l.length <= 2000) :
 aw prog 40 [.ptr n.p 10 0 0] bx (qj aD n.p (runN w l l.length)):=by
 refine VK fun hf=>?_
 simp [go_sem,C40,hf]
 refine iM (ι:=RN × aa) l.length (fun k p=>p.1.p = n.p /\ WR aD p.1 (runN w l k) p.2) (fun k p=>⟨55,bR [(0,.ptr n.p 10 0 0),(2,.int .i64 k)],p.2⟩) (n,bx) ⟨rfl,h⟩ (ak (by simp [go_sem])) (fun k p hk hJ N hN=>?_) (fun p hJ N=>?_)
 ·obtain ⟨n1,bP⟩:=p
  obtain ⟨hp,h1⟩:=hJ
  dsimp only at hp h1 ⊢
  have tt:=qq hg hv k
  have he:l[k]? = some l[k]:=List.getElem?_eq_getElem hk
  have ES:=hv _ (List.getElem_mem hk)
  have hz:runN w l (k + 1) = lM (runN w l k) k l[k].ev:=by
   rw [runN,he]
  rw [hz] at hN
  generalize runN w l k = w1 at *
  have bg:=h1.fin
  have au:=h1.row
  unfold gP at au
  rw [tt.kO] at au
  rw [<- hp]
  have h2:WR aD n1 { w1 with ev:=(k:Int) } (aB bP n1.p (some (bF.row sH 10 [V.agg [V.sl 4 (w1.aN.map bG),V.int .i64 w1.most,V.sl 8 (l.map ey),V.int .i64 w1.now,V.own n1.bb 5 0 w1.ai.length,n1.cv,n1.rv,V.bool w1.stop,V.int .i64 k,n1.fv]]))):=by
   have:=h1.world { w1 with ev:=(k:Int) } rfl rfl rfl rfl
   unfold gP at this
   simp only [iI] at this
   rw [<- tt.kO]
   exact this
  simp [go_sem,Gu,bg,au,hk,ey,dQ,iI]
  generalize (aB bP n1.p (some (bF.row sH 10 [V.agg [V.sl 4 (w1.aN.map bG),V.int .i64 w1.most,V.sl 8 (l.map ey),V.int .i64 w1.now,V.own n1.bb 5 0 w1.ai.length,n1.cv,n1.rv,V.bool w1.stop,V.int .i64 k,n1.fv]]))) = bx2 at *
  intro b hb
  have cm:=h2.fin
  have fO:=h2.row
  unfold gP at fO
  simp only [] at fO
  rw [tt.kO] at fO
  rw [tP hb]
  have hlen:=fun bx3=>fW (bx2:=bx3) (t:=31) h2.aI vR
  simp [go_sem,h2.aI.strip,h2.aI.live] at hlen
  have evg:V.agg [V.int .i64 l[k].ev.kind,V.int .i64 l[k].b,V.int .i64 l[k].ev.t,V.int .i64 l[k].ev.call,V.int .i64 l[k].ev.conn,V.int .i64 l[k].ev.kf,V.int .i64 l[k].ev.n,V.bool l[k].ev.yes] = dQ l[k].ev l[k].b:=rfl
  have hgE:=tt.ev (k:Int)
  have iB:∀ (n3:RN) (w3:RW) (bx3:aa),WR aD n3 w3 bx3 -> n3.p = n1.p -> eo 1 0 0 0 { w1 with ev:=(k:Int) } w3 -> aw prog 91 [.ptr n1.p 10 0 0,dQ l[k].ev l[k].b] bx3 (fA aD n1.p (j4 w3 l[k].ev)) /\ eo 3 1 1 1 w3 (j4 w3 l[k].ev).1:=by
   intro n3 w3 bx3 h3 OP hc
   have nU:=hc.pz hgE.pz
   have q1:=hc.aI; have q2:=hc.aq; have q3:=hc.aE
   have g1:=tt.aI; have g2:=tt.aq; have g3:=tt.aE
   dsimp only at q1 q2 q3
   refine ⟨?_,Af w3 _ (fun a b=>by rw [hc.len]; dsimp only; rw [tt.len]; exact (ES.2.2 a b).2) nU⟩
   rw [<- OP]
   refine OW h3 l[k].ev l[k].b (by omega) (by omega) (by omega) (fun b hb=>by have:=hc.Hp k tt.Hp b hb; omega) nU.begun ES.1 ES.2.1 fun a b=>?_
   obtain ⟨v1,v2⟩:=ES.2.2 a b
   exact ⟨v1,by rw [hc.len]; dsimp only; rw [tt.len]; exact v2,by rw [hc.aN]; dsimp only; rw [tt.aN]; exact v2⟩
  obtain ⟨z,hz⟩:∃ z,lM w1 k l[k].ev = z:=⟨_,rfl⟩
  rw [hz] at hN
  unfold lM at hz
  dsimp only at hz
  have g1:=tt.aI
  by_cases c1:l[k].ev.t < w1.now
  ·rw [if_pos c1] at hz
   simp [go_sem,cm,fO,hlen,h2.aI.strip,h2.aI.live,iI,c1]
   refine ar (db h2 12 (by dsimp only; omega)) ?_
   rintro r bx3 ⟨rfl,v3,h3⟩
   have h3:WR aD { n1 with fv:=v3 } (({ w1 with ev:=(k:Int) }:RW).fault 12) bx3:=h3
   obtain ⟨n3,uN⟩:∃ n3,({ n1 with fv:=v3 }:RN) = n3:=⟨_,rfl⟩
   rw [uN] at h3
   have OP:n3.p = n1.p:=by rw [<- uN]
   have F4:eo 1 0 0 0 { w1 with ev:=(k:Int) } (({ w1 with ev:=(k:Int) }:RW).fault 12):=eo.fault _ _
   generalize ({ w1 with ev:=(k:Int) }:RW).fault 12 = w3 at *
   obtain ⟨cS,Xs⟩:=iB n3 w3 bx3 h3 OP F4
   have lU:=h3.fin
   simp [go_sem,lU]
   rw [evg]
   refine ar cS ?_
   have Pg:w1.aI <+: (j4 w3 l[k].ev).1.aI:=F4.pre.trans Xs.pre
   have pY:=Xs.aI
   have Ph:=F4.aI
   dsimp only at Ph
   generalize j4 w3 l[k].ev = S at *
   rintro r bx4 ⟨rfl,n4,Ew,h4⟩
   have lI:=h4.fin
   have rX:=Pg.length_le
   cases nA:S.2
   ·rw [nA] at hz
    simp [go_sem,lI]
    rw [<- Ew]
    refine ar (db h4 13 (by omega)) ?_
    rintro r jt ⟨rfl,v5,h5⟩
    have nG:=h5.fin
    simp [go_sem,nG]
    refine ar (sR h5 w1.aI.length (by simp; omega) (by simp; omega)) ?_
    rintro r qw ⟨rfl,n6,Pj,h6⟩
    have De:=h6.fin
    have Pk:{ S.1.fault 13 with aI:=(S.1.fault 13).aI.take w1.aI.length ++ dK ((S.1.fault 13).aI.drop w1.aI.length) } = z:=by rw [<- hz]; rfl
    have h6:WR aD n6 z qw:=by rw [<- Pk]; exact h6
    have wc:=bj (k:=k) (by omega)
    simp [go_sem,De,wc]
    exact hN _ (n6,qw) ⟨by rw [Pj]; exact Ew.trans hp,h6⟩ (ak (by simp [go_sem,Ew,hp]))
   ·rw [nA] at hz
    simp [go_sem,lI]
    rw [<- Ew]
    refine ar (sR h4 w1.aI.length (by omega) (by omega)) ?_
    rintro r qw ⟨rfl,n6,Pj,h6⟩
    have De:=h6.fin
    have Pk:{ S.1 with aI:=S.1.aI.take w1.aI.length ++ dK (S.1.aI.drop w1.aI.length) } = z:=by rw [<- hz]; rfl
    have h6:WR aD n6 z qw:=by rw [<- Pk]; exact h6
    have wc:=bj (k:=k) (by omega)
    simp [go_sem,De,wc]
    exact hN _ (n6,qw) ⟨by rw [Pj]; exact Ew.trans hp,h6⟩ (ak (by simp [go_sem,Ew,hp]))
  ·rw [if_neg c1] at hz
   have h3:WR aD n1 { w1 with ev:=(k:Int),now:=l[k].ev.t } (aB bx2 n1.p (some (bF.row sH 10 [V.agg [V.sl 4 (w1.aN.map bG),V.int .i64 w1.most,V.sl 8 (l.map ey),V.int .i64 l[k].ev.t,V.own n1.bb 5 0 w1.ai.length,n1.cv,n1.rv,V.bool w1.stop,V.int .i64 k,n1.fv]]))):=by
    have:=h2.world { w1 with ev:=(k:Int),now:=l[k].ev.t } rfl rfl rfl rfl
    unfold gP at this
    simp only [iI] at this
    have e:=tt.kO
    simp only [e] at this ⊢
    exact this
   simp [go_sem,cm,fO,hlen,h2.aI.strip,h2.aI.live,iI,c1]
   generalize (aB bx2 n1.p (some (bF.row sH 10 [V.agg [V.sl 4 (w1.aN.map bG),V.int .i64 w1.most,V.sl 8 (l.map ey),V.int .i64 l[k].ev.t,V.own n1.bb 5 0 w1.ai.length,n1.cv,n1.rv,V.bool w1.stop,V.int .i64 k,n1.fv]]))) = bx3 at *
   have OP:n1.p = n1.p:=rfl
   have F4:eo 1 0 0 0 { w1 with ev:=(k:Int) } { w1 with ev:=(k:Int),now:=l[k].ev.t }:=⟨rfl,rfl,rfl,rfl,Nat.le_add_right _ _,Nat.le_refl _,Nat.le_refl _,fun m h=>h,fun n hn=>hn,fun h=>⟨h.c,h.d,h.q⟩,List.prefix_rfl⟩
   generalize ({ w1 with ev:=(k:Int),now:=l[k].ev.t }:RW) = w3 at *
   obtain ⟨cS,Xs⟩:=iB n1 w3 bx3 h3 OP F4
   have lU:=h3.fin
   rw [evg]
   refine ar cS ?_
   have Pg:w1.aI <+: (j4 w3 l[k].ev).1.aI:=F4.pre.trans Xs.pre
   have pY:=Xs.aI
   have Ph:=F4.aI
   dsimp only at Ph
   generalize j4 w3 l[k].ev = S at *
   rintro r bx4 ⟨rfl,n4,Ew,h4⟩
   have lI:=h4.fin
   have rX:=Pg.length_le
   cases nA:S.2
   ·rw [nA] at hz
    simp [go_sem,lI]
    rw [<- Ew]
    refine ar (db h4 13 (by omega)) ?_
    rintro r jt ⟨rfl,v5,h5⟩
    have nG:=h5.fin
    simp [go_sem,nG]
    refine ar (sR h5 w1.aI.length (by simp; omega) (by simp; omega)) ?_
    rintro r qw ⟨rfl,n6,Pj,h6⟩
    have De:=h6.fin
    have Pk:{ S.1.fault 13 with aI:=(S.1.fault 13).aI.take w1.aI.length ++ dK ((S.1.fault 13).aI.drop w1.aI.length) } = z:=by rw [<- hz]; rfl
    have h6:WR aD n6 z qw:=by rw [<- Pk]; exact h6
    have wc:=bj (k:=k) (by omega)
    simp [go_sem,De,wc]
    exact hN _ (n6,qw) ⟨by rw [Pj]; exact Ew.trans hp,h6⟩ (ak (by simp [go_sem,Ew,hp]))
   ·rw [nA] at hz
    simp [go_sem,lI]
    rw [<- Ew]
    refine ar (sR h4 w1.aI.length (by omega) (by omega)) ?_
    rintro r qw ⟨rfl,n6,Pj,h6⟩
    have De:=h6.fin
    have Pk:{ S.1 with aI:=S.1.aI.take w1.aI.length ++ dK (S.1.aI.drop w1.aI.length) } = z:=by rw [<- hz]; rfl
    have h6:WR aD n6 z qw:=by rw [<- Pk]; exact h6
    have wc:=bj (k:=k) (by omega)
    simp [go_sem,De,wc]
    exact hN _ (n6,qw) ⟨by rw [Pj]; exact Ew.trans hp,h6⟩ (ak (by simp [go_sem,Ew,hp]))
 ·obtain ⟨n1,bP⟩:=p
  obtain ⟨hp,h1⟩:=hJ
  dsimp only at hp h1 ⊢
  have bg:=h1.fin
  have au:=h1.row
  unfold gP at au
  have tt:=qq hg hv l.length
  rw [tt.kO] at au
  rw [<- hp]
  simp [go_sem,Gu,bg,au]
  exact al (by simp [go_sem]) ⟨by simp [go_sem],n1,rfl,h1⟩
def fp (L:List eR) (most:Int) (l:List Ex):IW:=⟨L,most,l,0,0,List.replicate L.length gp,[],[],[],[],[],false,[]⟩
def il (s:IW) (k:Nat) (x:Ev):IW:=let s0:IW:={ s with at_:=(k:Int) }; uk s.aI.length (eT (fo s0 x) x)
def eF (s:IW) (l:List Ex):Nat -> IW
 | 0=>s
 | k + 1=>match l[k]? with
   | some e=>il (eF s l k) k e.ev
   | none=>eF s l k
structure GI (l:List Ex) (L:List eR) (k:Nat) (s:IW):Prop where
 kO:s.kO = l
 aN:s.aN = L
 len:s.ai.length = L.length
 aI:s.aI.length <= 5 * k
 aq:s.aq.length <= k
 Hg:∀ b,b ∈ s.ai -> b.waits.length <= k
 inv:pf s
theorem Pm {aD bx:aa} {ad:di} {s:IW} (h:WI aD ad s bx) {p:Nat} (hp:ad .w = some p) (e:Ex) (hv:VE s.ai.length e) (hL:s.aN.length = s.ai.length) (hb:s.ai.length <= 1000) (hf:s.aI.length <= 50000) (ho:s.ord.length <= 50000) (hw:∀ b,b ∈ s.ai -> b.waits.length <= 50000) (hi:pf s) :
 aw prog (68 + e.ev.kind.toNat) [.ptr p 13 0 0,dQ e.ev e.b] bx (dq aD ad (eT s e.ev)):=by
 obtain ⟨h1,h2,h3⟩:=hv
 have hV:2 <= e.ev.kind -> e.ev.kind <= 16 -> dQ e.ev e.b = aX e.ev /\ e.ev.bk < s.ai.length /\ e.ev.bk < s.aN.length:=fun a b=>by
  obtain ⟨q1,q2⟩:=h3 a b
  exact ⟨by rw [q1]; rfl,q2,by omega⟩
 have mg:∀ (hx:e.ev.bk < s.ai.length),s.ai[e.ev.bk].waits.length <= 50000:=fun hx=>hw _ (List.getElem_mem hx)
 have FL:∀ i,lG s e.ev = some i -> ∃ j,ki s.aE e.ev.call = some j:=fun i ho=>Option.isSome_iff_exists.1 ((qo _ _).2 (yn ho hi))
 obtain ⟨n,hn⟩:∃ n:Nat,e.ev.kind = n:=⟨e.ev.kind.toNat,by omega⟩
 have ht:e.ev.kind.toNat = n:=by omega
 unfold eT
 rw [ht]
 have BC:2 <= n -> n <= 16 -> dQ e.ev e.b = aX e.ev /\ e.ev.bk < s.ai.length /\ e.ev.bk < s.aN.length:=fun a b=>hV (by omega) (by omega)
 rcases (show n = 1 \/ n = 2 \/ n = 3 \/ n = 4 \/ n = 5 \/ n = 6 \/ n = 7 \/ n = 8 \/ n = 9 \/ n = 10 \/ n = 11 \/ n = 12 \/ n = 13 \/ n = 14 \/ n = 15 \/ n = 16 \/ n = 17 \/ n = 18 \/ n = 19 by omega) with rfl | rfl | rfl | rfl | rfl | rfl | rfl | rfl | rfl | rfl | rfl | rfl | rfl | rfl | rfl | rfl | rfl | rfl | rfl
 ·exact JL h hp e.ev e.b
 ·obtain ⟨e1,x1,x2⟩:=BC (by decide) (by decide); rw [e1]; exact ON h hp e.ev x1 (by omega)
 ·obtain ⟨e1,x1,x2⟩:=BC (by decide) (by decide); rw [e1]; exact OJ h hp e.ev x1 x2 (by omega) (by have:=mg x1; omega)
 ·obtain ⟨e1,x1,x2⟩:=BC (by decide) (by decide); rw [e1]; exact JM h hp e.ev x1 (by have:=mg x1; omega)
 ·obtain ⟨e1,x1,x2⟩:=BC (by decide) (by decide); rw [e1]; exact OL h hp e.ev x1 x2 (by omega) (by have:=mg x1; omega)
 ·obtain ⟨e1,x1,x2⟩:=BC (by decide) (by decide); rw [e1]; exact Eh h hp e.ev x1
 ·obtain ⟨e1,x1,x2⟩:=BC (by decide) (by decide); rw [e1]; exact OO h hp e.ev x1 (by omega)
 ·obtain ⟨e1,x1,x2⟩:=BC (by decide) (by decide); rw [e1]; exact JO h hp e.ev x1 x2 (by omega) (by have:=mg x1; omega)
 ·obtain ⟨e1,x1,x2⟩:=BC (by decide) (by decide); rw [e1]; exact OI h hp e.ev (by omega) FL
 ·obtain ⟨e1,x1,x2⟩:=BC (by decide) (by decide); rw [e1]; exact OH h hp e.ev (by omega)
 ·obtain ⟨e1,x1,x2⟩:=BC (by decide) (by decide); rw [e1]; exact OF h hp e.ev
 ·obtain ⟨e1,x1,x2⟩:=BC (by decide) (by decide); rw [e1]; exact OG h hp e.ev (by omega)
 ·obtain ⟨e1,x1,x2⟩:=BC (by decide) (by decide); rw [e1]; exact JN h hp e.ev x1 (by omega)
 ·obtain ⟨e1,x1,x2⟩:=BC (by decide) (by decide); rw [e1]; exact OC h hp e.ev x1
 ·obtain ⟨e1,x1,x2⟩:=BC (by decide) (by decide); rw [e1]; exact OD h hp e.ev x1
 ·obtain ⟨e1,x1,x2⟩:=BC (by decide) (by decide); rw [e1]; exact GV h hp e.ev x1
 ·exact Xa h hp e.ev e.b
 ·exact OE h hp e.ev e.b
 ·exact OQ h hp e.ev e.b (by omega) hb
theorem Hu (s:IW) (x:Ev):CI [12] 0 0 s (fo s x):=by
 have h:=CI.aj s (decide (x.t < s.now)) 12
 unfold fo
 generalize s.aj (decide (x.t < s.now)) 12 = s1 at *
 exact ⟨h.kO,h.aN,h.most,h.at_,h.len,h.aq,h.Hg,fun hi=>⟨(h.inv hi).ord,(h.inv hi).oC,(h.inv hi).pz,(h.inv hi).CY⟩,h.aI⟩
theorem uw (s:IW) (k:Nat) (x:Ev) (hi:pf s):∃ E:List Int,E.Nodup /\ (∀ k,k ∈ E -> 1 <= k /\ k <= 13) /\ E.length <= 5 /\ (il s k x).aI = s.aI ++ dK (E.map fun q=>(q,(k:Int))) /\ pf (il s k x) /\ (il s k x).kO = s.kO /\ (il s k x).aN = s.aN /\ (il s k x).most = s.most /\ (il s k x).ai.length = s.ai.length /\ (il s k x).aq.length <= s.aq.length + 1 /\ (∀ m,(∀ b,b ∈ s.ai -> b.waits.length <= m) -> ∀ b,b ∈ (il s k x).ai -> b.waits.length <= m + 1):=by
 obtain ⟨s0,BX⟩:∃ s0:IW,({ s with at_:=(k:Int) }:IW) = s0:=⟨_,rfl⟩
 have Xt:pf s0:=by rw [<- BX]; exact ⟨hi.ord,hi.oC,hi.pz,hi.CY⟩
 have h1:=Hu s0 x
 have y7:=h1.inv Xt
 obtain ⟨l2,⟨Ct,iS,YA⟩,h2⟩:=Da (fo s0 x) x y7
 have h3:=CI.aj (eT (fo s0 x) x).1 (!(eT (fo s0 x) x).2) 13
 have hh:=(h1.trans h2).trans h3
 have hs:il s k x = { (eT (fo s0 x) x).1.aj (!(eT (fo s0 x) x).2) 13 with aI:=((eT (fo s0 x) x).1.aj (!(eT (fo s0 x) x).2) 13).aI.take s.aI.length ++ dK (((eT (fo s0 x) x).1.aj (!(eT (fo s0 x) x).2) 13).aI.drop s.aI.length) }:=by
  rw [<- BX]; rfl
 rw [hs]
 generalize (eT (fo s0 x) x).1.aj (!(eT (fo s0 x) x).2) 13 = s3 at *
 obtain ⟨E,hE,jo⟩:=hh.aI
 have e0:s0.aI = s.aI /\ s0.at_ = (k:Int) /\ s0.kO = s.kO /\ s0.aN = s.aN /\ s0.ai = s.ai /\ s0.aq = s.aq /\ s0.most = s.most:=by rw [<- BX]; exact ⟨rfl,rfl,rfl,rfl,rfl,rfl,rfl⟩
 obtain ⟨f1,f2,f3,f4,f5,f6,f7⟩:=e0
 have sk:([12] ++ l2 ++ [13]).Nodup:=by
  rw [List.nodup_append,List.nodup_append]
  refine ⟨⟨by simp,Ct,fun a ha b hb=>?_⟩,by simp,fun a ha b hb=>?_⟩
  ·simp at ha; have:=iS b hb; omega
  ·simp at hb
   rcases List.mem_append.1 ha with ha | ha
   ·simp at ha; omega
   ·have:=iS a ha; omega
 have hlen:=jo.length_le
 simp at hlen
 refine ⟨E,jo.nodup sk,fun q hq=>?_,by omega,?_,?_,by dsimp only; rw [hh.kO,f3],by dsimp only; rw [hh.aN,f4],by dsimp only; rw [hh.most,f7],by dsimp only; rw [hh.len,f5],by dsimp only; have:=hh.aq; rw [f6] at this; omega,fun m hm b hb=>?_⟩
 ·have:=jo.subset hq
  rcases List.mem_append.1 this with h | h
  ·rcases List.mem_append.1 h with h | h
   ·simp at h; omega
   ·have:=iS q h; omega
  ·simp at h; omega
 ·dsimp only
  rw [hE,f1,f2]
  rw [List.take_left' rfl,List.drop_left' rfl]
 ·have:=hh.inv Xt
  exact ⟨this.ord,this.oC,this.pz,this.CY⟩
 ·have:=hh.Hg m (by rw [f5]; exact hm) b hb
  omega
theorem BD {l:List Ex} {L:List eR} {k:Nat} {s:IW} (h:GI l L k s) (i:Nat) (x:Ev):GI l L (k + 1) (il s i x):=by
 obtain ⟨E,e1,e2,e3,e4,e5,e6,e7,e8,e9,e10,e11⟩:=uw s i x h.inv
 refine ⟨e6.trans h.kO,e7.trans h.aN,e9.trans h.len,?_,by have:=h.aq; omega,fun b hb=>by have:=e11 k h.Hg b hb; omega,e5⟩
 rw [e4,List.length_append,lf,List.length_map]
 have:=h.aI
 omega
theorem fY {l:List Ex} {L:List eR} {s:IW} (h:GI l L 0 s):∀ k,GI l L k (eF s l k)
 | 0=>h
 | k + 1=>by
   have ih:=fY h k
   unfold eF
   split
   ·exact BD ih k _
   ·exact ⟨ih.kO,ih.aN,ih.len,by have:=ih.aI; omega,by have:=ih.aq; omega,fun b hb=>by have:=ih.Hg b hb; omega,ih.inv⟩
theorem gx (L:List eR) (most:Int) (l:List Ex):GI l L 0 (fp L most l):=by
 refine ⟨rfl,rfl,by simp [fp],by simp [fp],by simp [fp],fun b hb=>?_,⟨rfl,List.nodup_nil,fun c hc=>by simp [fp] at hc,fun q hq=>by simp [fp] at hq⟩⟩
 have:=(List.mem_replicate.1 hb).2
 rw [this]
 exact Nat.le_refl _
def Kk (b bc br bm bw p:Nat):di:=fun c=>match c with
 | .w=>some p
 | .ai=>some b
 | .mc=>some bc
 | .mr=>some br
 | .mb=>some bm
 | .mw=>some bw
 | _=>none
theorem Hv {bx:aa} (hf:ba bx) (L:List eR) (most:Int) (l:List Ex) {b bc br bm bw p:Nat} (h1:bx b = none) (h2:bx bc = none) (h3:bx br = none) (h4:bx bm = none) (h5:bx bw = none) (h6:bx p = none)
 (d1:bc ≠ b) (d2:br ≠ b /\ br ≠ bc) (d3:bm ≠ b /\ bm ≠ bc /\ bm ≠ br) (d4:bw ≠ b /\ bw ≠ bc /\ bw ≠ br /\ bw ≠ bm) (d5:p ≠ b /\ p ≠ bc /\ p ≠ br /\ p ≠ bm /\ p ≠ bw) :
 WI bx (Kk b bc br bm bw p) (fp L most l) (aB (aB (aB (aB (aB (aB bx b (some (.row 194 6 (List.replicate L.length (kZ .aH gp))))) bc (some (.map []))) br (some (.map []))) bm (some (.map []))) bw (some (.map []))) p (some (.row 94 13 [.agg [.sl 4 (L.map bG),iI most,.sl 8 (l.map ey),iI 0,iI 0,.own b 6 0 L.length,.mp bc,.aH,.mp br,.mp bm,.mp bw,.bool false,.aH]]))):=by
 refine ⟨?_,?_,fun c x hc=>?_,fun c hc ho=>?_,fun c c' x hc ec=>?_⟩
 ·repeat' apply (an _ _ _).2
  exact hf
 ·exact ((((((Ext.refl bx).aJ h1 _).aJ h2 _).aJ h3 _).aJ h4 _).aJ h5 _).aJ h6 _
 ·have bO:(List.replicate L.length gp).mapIdx (iq (Kk b bc br bm bw p)) = List.replicate L.length (kZ .aH gp):=by
   apply List.ext_getElem?
   intro j
   rw [List.getElem?_mapIdx,List.getElem?_replicate,List.getElem?_replicate]
   split <;> rfl
  cases c <;> simp only [Kk,Option.some.injEq,reduceCtorEq] at hc
  ·subst hc; exact ⟨h6,by rw [af]; simp [cont,It,iv,fp,Kk,jJ,nY],trivial⟩
  ·subst hc
   refine ⟨h1,?_,trivial⟩
   rw [ae _ _ (Ne.symm d5.1),ae _ _ (Ne.symm d4.1),ae _ _ (Ne.symm d3.1),ae _ _ (Ne.symm d2.1),ae _ _ (Ne.symm d1),af]
   show _ = some (bF.row _ 6 ((List.replicate L.length gp).mapIdx _))
   rw [bO]
  ·subst hc
   refine ⟨h2,?_,trivial⟩
   rw [ae _ _ (Ne.symm d5.2.1),ae _ _ (Ne.symm d4.2.1),ae _ _ (Ne.symm d3.2.1),ae _ _ (Ne.symm d2.2),af]
   rfl
  ·subst hc
   refine ⟨h3,?_,trivial⟩
   rw [ae _ _ (Ne.symm d5.2.2.1),ae _ _ (Ne.symm d4.2.2.1),ae _ _ (Ne.symm d3.2.2),af]
   rfl
  ·subst hc
   refine ⟨h4,?_,trivial⟩
   rw [ae _ _ (Ne.symm d5.2.2.2.1),ae _ _ (Ne.symm d4.2.2.2),af]
   rfl
  ·subst hc
   refine ⟨h5,?_,trivial⟩
   rw [ae _ _ (Ne.symm d5.2.2.2.2),af]
   rfl
 ·cases c <;> simp only [Kk,reduceCtorEq] at hc
  ·rfl
  ·rfl
  ·rename_i i
   show ((List.replicate L.length gp).getD i gp).waits = []
   rw [List.getD_eq_getElem?_getD,List.getElem?_replicate]
   split <;> rfl
  ·exact absurd ho (Nat.not_lt_zero _)
  ·exact absurd ho (Nat.not_lt_zero _)
 ·cases c <;> cases c' <;> simp only [Kk,Option.some.injEq,reduceCtorEq] at hc ec <;> first | rfl | (exfalso; subst hc; simp_all)
theorem Hw (L:List eR) (most:Int) (l:List Ex) (hL:L.length <= 1000) (hl:l.length <= 2000) (hv:∀ e,e ∈ l -> VE L.length e) (bx:aa):aw prog 38 [ck L most l] bx fun r bx'=>∃ p ad,r = .ptr p 13 0 0 /\ ad .w = some p /\ WI bx ad (eF (fp L most l) l l.length) bx':=by
 obtain ⟨Kc,eZ⟩:∃ Kc:V -> aa -> Prop,Kc = fun r bx'=>∃ p ad,r = .ptr p 13 0 0 /\ ad .w = some p /\ WI bx ad (eF (fp L most l) l l.length) bx':=⟨_,rfl⟩
 rw [<- eZ]
 refine VI fun hf=>?_
 simp [go_sem,C38,hf,ck]
 refine ⟨by simp [jd,mh],?_⟩
 simp [go_sem,hf,iI]
 simp [go_sem,Nf,hf]
 refine ⟨by omega,by omega,?_⟩
 intro b hb bc Xu br A2 bm Iv bw Ef p hp
 obtain ⟨k1,hp⟩:=eN hp
 obtain ⟨k2,hp⟩:=eN hp
 obtain ⟨k3,hp⟩:=eN hp
 obtain ⟨k4,hp⟩:=eN hp
 obtain ⟨k5,hp⟩:=eN hp
 obtain ⟨k6,Ef⟩:=eN Ef
 obtain ⟨k7,Ef⟩:=eN Ef
 obtain ⟨k8,Ef⟩:=eN Ef
 obtain ⟨k9,Ef⟩:=eN Ef
 obtain ⟨k10,Iv⟩:=eN Iv
 obtain ⟨k11,Iv⟩:=eN Iv
 obtain ⟨k12,Iv⟩:=eN Iv
 obtain ⟨k13,A2⟩:=eN A2
 obtain ⟨k14,A2⟩:=eN A2
 obtain ⟨k15,Xu⟩:=eN Xu
 have h0:=Hv hf L most l hb Xu A2 Iv Ef hp k15 ⟨k14,k13⟩ ⟨k12,k11,k10⟩ ⟨k9,k8,k7,k6⟩ ⟨k5,k4,k3,k2,k1⟩
 refine ar (Db _) ?_
 rintro r bx2 ⟨b7,h7,rfl,mJ⟩
 obtain ⟨RL,Pe⟩:∃ RL,(List.range 20).map jh = RL:=⟨_,rfl⟩
 have h1:=h0.beside h7 Hk
 have BE:bx b7 = none:=h0.CW h7
 have h2:WI (aB bx b7 (some (.row 86 7 RL))) (Kk b bc br bm bw p) (fp L most l) bx2:=by rw [mJ,<- Pe]; exact h1
 have Iu:RL.length = 20:=by rw [<- Pe]; rfl
 have hRg:∀ n (h:n < RL.length),n < 20 -> RL[n] = jh n:=fun n h hn=>by
  have:RL[n]? = some (jh n):=by rw [<- Pe,List.getElem?_map,List.getElem?_range hn]; rfl
  rw [List.getElem?_eq_getElem h] at this
  injection this
 clear h0 h1 mJ h7
 have Lc:Kk b bc br bm bw p .w = some p:=rfl
 generalize Kk b bc br bm bw p = ad0 at *
 have cm:=h2.fin
 simp [go_sem,cm]
 refine iM (ι:=di × aa) l.length (fun k q=>q.1 .w = some p /\ WI (aB bx b7 (some (.row 86 7 RL))) q.1 (eF (fp L most l) l k) q.2) (fun k q=>⟨41,bR [(3,.ptr p 13 0 0),(4,.own b7 7 0 20),(20,.sl 8 (l.map ey)),(21,.int .i64 l.length),(22,.int .i64 k)],q.2⟩) (ad0,bx2) ⟨Lc,h2⟩ (ak (by simp [go_sem])) (fun k q hk hJ N hN=>?_) (fun q hJ N=>?_)
 ·obtain ⟨ad,bx3⟩:=q
  obtain ⟨Jr,h3⟩:=hJ
  dsimp only at Jr h3 ⊢
  have hg:=fY (gx L most l) k
  have ES:=hv _ (List.getElem_mem hk)
  have hz:eF (fp L most l) l (k + 1) = il (eF (fp L most l) l k) k l[k].ev:=by rw [eF,List.getElem?_eq_getElem hk]
  rw [hz] at hN
  generalize eF (fp L most l) l k = s at *
  have lU:=h3.fin
  obtain ⟨pb,pc,pr,pm,pw',hn⟩:=h3.names Jr
  have au:=h3.row hn
  unfold iv at au
  simp only [iI] at au
  have h4:=h3.world hn s.now (k:Int) s.stop
  unfold iv at h4
  simp only [iI] at h4
  obtain ⟨_,Ey,af3⟩:=h3.back BE
  obtain ⟨n,hn'⟩:∃ n:Nat,l[k].ev.kind = n:=⟨l[k].ev.kind.toNat,by have:=ES.1; omega⟩
  have xv:1 <= n:=by have:=ES.1; omega
  have Pf:n < 20:=by have:=ES.2.1; omega
  have hw:=bj (k:=k) (by omega)
  have Ac:∀ b,bx3 b = none -> aB bx3 b none = bx3:=fun b hb=>by
   funext c
   by_cases e:c = b
   ·rw [e,af,hb]
   ·rw [ae _ _ e]
  simp [go_sem,Gt,hk,lU,au,ey,dQ,iI,hn']
  intro b6 hb6
  rw [Ac b6 hb6]
  simp [go_sem,lU,au]
  refine ⟨by omega,?_⟩
  generalize (aB bx3 p (some (bF.row 94 13 [V.agg [V.sl 4 (s.aN.map bG),V.int .i64 s.most,V.sl 8 (s.kO.map ey),V.int .i64 s.now,V.int .i64 k,V.own pb 6 0 s.ai.length,V.mp pc,jJ (ad .ord) 1 s.ord.length,V.mp pr,V.mp pm,V.mp pw',V.bool s.stop,jJ (ad .aI) 2 s.aI.length]]))) = bx4 at *
  obtain ⟨_,aea,_⟩:=h4.back BE
  have lI:=h4.fin
  have TS:∀ j,V.agg (List.take 7 (jh j).cells) = jh j:=fun j=>by unfold jh Rq; rfl
  have PU:jh n = .agg [.bool (nd n).call,.bool (nd n).bk,.bool (nd n).conn,.bool (nd n).kf,.int .i64 (nd n).low,.int .i64 (nd n).high,.fn (.func (68 + n)) []]:=by
   unfold jh Rq
   rw [if_neg (by omega)]
   rfl
  have ma:(jh n).az = true /\ (jh n).strip = jh n:=by rw [PU]; exact ⟨rfl,rfl⟩
  have evh:V.agg [V.int .i64 n,V.int .i64 l[k].b,V.int .i64 l[k].ev.t,V.int .i64 l[k].ev.call,V.int .i64 l[k].ev.conn,V.int .i64 l[k].ev.kf,V.int .i64 l[k].ev.n,V.bool l[k].ev.yes] = dQ l[k].ev l[k].b:=by simp [dQ,iI,hn']
  simp [go_sem,lI,aea,Iu,hRg,Pf,we,TS,ma.1,ma.2]
  rw [evh,PU]
  generalize l[k] = e at *
  obtain ⟨s0,BX⟩:∃ s0:IW,({ s with at_:=(k:Int) }:IW) = s0:=⟨_,rfl⟩
  have h4:WI (aB bx b7 (some (.row 86 7 RL))) ad s0 bx4:=by rw [<- BX]; exact h4
  have g0:GI l L k s0:=by rw [<- BX]; exact ⟨hg.kO,hg.aN,hg.len,hg.aI,hg.aq,hg.Hg,⟨hg.inv.ord,hg.inv.oC,hg.inv.pz,hg.inv.CY⟩⟩
  have Bc:il s k e.ev = uk s0.aI.length (eT (fo s0 e.ev) e.ev):=by rw [<- BX]; rfl
  rw [Bc] at hN
  have h1:=Hu s0 e.ev
  have i1:=h1.inv g0.inv
  obtain ⟨l2,⟨Ct,iS,YA⟩,nA⟩:=Da (fo s0 e.ev) e.ev i1
  have hh:=h1.trans nA
  obtain ⟨E,hE,jo⟩:=hh.aI
  have hEl:=jo.length_le
  simp only [List.length_append,List.length_singleton] at hEl
  have hEm:∀ q,q ∈ E -> 1 <= q /\ q <= 13:=fun q hq=>by
   rcases List.mem_append.1 (jo.subset hq) with h | h
   ·simp at h; omega
   ·have:=iS q h; omega
  have hF:∀ bx0' bx' ad',WI bx0' ad' (fo s0 e.ev) bx' -> ad' .w = some p -> aw prog (68 + n) [.ptr p 13 0 0,dQ e.ev e.b] bx' (dq bx0' ad' (eT (fo s0 e.ev) e.ev)):=by
   intro bx0' bx' ad' Sp qZ
   have hq:=h1.aI
   obtain ⟨E1,WV,KU⟩:=hq
   have:=KU.length_le
   have bg:(fo s0 e.ev).aI.length <= 50000:=by
    rw [WV,List.length_append,List.length_map]
    have:=g0.aI
    simp only [List.length_singleton] at *
    omega
   have eK:(fo s0 e.ev).ai.length = L.length:=h1.len.trans g0.len
   have nt:=h1.aq
   have:=Pm Sp qZ e (by rw [eK]; exact ES) (by rw [eK,h1.aN,g0.aN]) (by omega) bg (by rw [i1.ord,List.length_map]; have:=g0.aq; omega) (fun b hb=>by have:=h1.Hg k g0.Hg b hb; omega) i1
   rw [hn'] at this
   exact this
  have gf:=g0.aI
  have hzl:(eT (fo s0 e.ev) e.ev).1.aI.length = s0.aI.length + E.length:=by rw [hE,List.length_append,List.length_map]
  have cE:=Kd h4 Jr e.ev e.b (68 + n) (nd n).call (nd n).bk (nd n).conn (nd n).kf (nd n).low (nd n).high (eT (fo s0 e.ev) e.ev) hF (by omega) (by omega) (by omega) (fun f hf=>by
   rw [hE,List.drop_left' rfl] at hf
   obtain ⟨q,hq,rfl⟩:=List.mem_map.1 hf
   have:=hEm q hq
   dsimp only
   omega)
  refine ar cE ?_
  generalize uk s0.aI.length (eT (fo s0 e.ev) e.ev) = s9 at *
  rintro r jt ⟨rfl,ad5,EO,h5⟩
  have nG:=h5.fin
  simp [go_sem,nG,hw]
  exact hN _ (ad5,jt) ⟨EO _ _ Jr rfl,h5⟩ (ak (by simp [go_sem]))
 ·obtain ⟨ad,bx3⟩:=q
  obtain ⟨Jr,h3⟩:=hJ
  dsimp only at Jr h3 ⊢
  have lU:=h3.fin
  simp [go_sem,Gt,lU]
  refine al (by simp [go_sem]) ?_
  rw [eZ]
  exact ⟨p,ad,by simp [go_sem],Jr,(h3.back BE).1⟩
def BF (sz:Nat) (es:List V) (v:V):Prop:=v = .sl sz es \/ (es = [] /\ v = .aH)
theorem BF.ok {sz:Nat} {es:List V} {v:V} (h:BF sz es v):v.cells = [v] /\ okV v = true /\ v.strip = v /\ v.az = true:=by
 rcases h with rfl | ⟨_,rfl⟩ <;> exact ⟨rfl,rfl,rfl,rfl⟩
theorem WI.Pn {aD bx:aa} {ad:di} {s:IW} (h:WI aD ad s bx):BF 2 (s.aI.map bH) (cK bx aD 1 (jJ (ad .aI) 2 s.aI.length)):=by
 cases hc:ad .aI with
 | none =>
   have h0:s.aI = []:=h.none_ .aI hc trivial
   exact .inr ⟨by rw [h0]; rfl,rfl⟩
 | some b =>
   obtain ⟨h1,h2,_⟩:=h.at_ .aI b hc
   exact .inl (fe h2 h1 (by decide) (by simp))
def NE (e:Ex):Prop:=e.ev.bk = e.b.toNat
theorem Xv {n:Nat} (h1:2 <= n) (h2:n <= 16):(nd n).bk = true:=by
 rcases (show n = 2 \/ n = 3 \/ n = 4 \/ n = 5 \/ n = 6 \/ n = 7 \/ n = 8 \/ n = 9 \/ n = 10 \/ n = 11 \/ n = 12 \/ n = 13 \/ n = 14 \/ n = 15 \/ n = 16 by omega) with rfl | rfl | rfl | rfl | rfl | rfl | rfl | rfl | rfl | rfl | rfl | rfl | rfl | rfl | rfl <;> rfl
theorem uz {nb:Nat} {e:Ex} (h:dY nb e = false) (hn:NE e):VE nb e:=by
 unfold dY at h
 simp only [Bool.or_eq_false_iff,decide_eq_false_iff_not] at h
 obtain ⟨⟨h1,h2⟩,h3⟩:=h
 refine ⟨by omega,by omega,fun a b=>?_⟩
 have hb:=Xv (n:=e.ev.kind.toNat) (by omega) (by omega)
 unfold yp at h3
 simp only [Bool.or_eq_false_iff,hb,Bool.true_and,decide_eq_false_iff_not] at h3
 obtain ⟨⟨⟨⟨_,h4,h5⟩,_⟩,_⟩,_⟩:=h3
 unfold NE at hn
 exact ⟨by omega,by omega⟩
theorem im {L:List eR} {most:Int} {l:List Ex} (h:(bu L most l).2 = 0):L.length <= 16 /\ 1 <= L.length /\ L.any ik = false /\ 0 <= most /\ most <= 20 /\ l.length <= 2000 /\ ∀ e,e ∈ l -> dY L.length e = false:=by
 unfold bu at h
 split at h
 ·rename_i h1; exact absurd h h1
 rename_i h1
 split at h
 ·cases h
 rename_i h2
 split at h
 ·cases h
 rename_i h3
 split at h
 ·cases h
 rename_i h4
 rw [List.findIdx?_eq_none_iff] at h4
 unfold jG at h1
 split at h1
 ·exact absurd (by decide) h1
 rename_i h5
 split at h1
 ·exact absurd (by decide) h1
 rename_i h6
 exact ⟨by omega,by omega,by simpa using h6,by omega,by omega,by omega,fun e he=>by simpa using h4 e he⟩
def ga (L:List eR) (most:Int) (l:List Ex):List (Int × Int) × Int:=if (bu L most l).2 = 0 then ((eF (fp L most l) l l.length).aI,0) else ([],(bu L most l).2)
theorem Po (L:List eR) (most:Int) (l:List Ex) (hL:L.length <= 1000000) (hl:l.length <= 4000000000000000000) (bB:∀ e,e ∈ l -> NE e) (bx:aa):aw prog 15 [ck L most l] bx fun r bx'=>bx' = bx /\ ∃ v,BF 2 ((ga L most l).1.map bH) v /\ r = .dc [v,iI (ga L most l).2]:=by
 obtain ⟨Kc,eZ⟩:∃ Kc:V -> aa -> Prop,Kc = fun r bx'=>bx' = bx /\ ∃ v,BF 2 ((ga L most l).1.map bH) v /\ r = .dc [v,iI (ga L most l).2]:=⟨_,rfl⟩
 rw [<- eZ]
 refine V2 fun hf=>?_
 have hc:=Dc L most l hL hl bx
 have hr:=Hw L most l
 have hg:=fY (gx L most l) l.length
 unfold ga at eZ
 have nJ:=im (L:=L) (most:=most) (l:=l)
 obtain ⟨c,LL⟩:∃ c,bu L most l = c:=⟨_,rfl⟩
 rw [LL] at hc eZ nJ
 obtain ⟨s,hs⟩:∃ s,eF (fp L most l) l l.length = s:=⟨_,rfl⟩
 rw [hs] at hr eZ hg
 obtain ⟨lv,LM⟩:∃ lv,ck L most l = lv:=⟨_,rfl⟩
 have sj:lv.strip = lv /\ lv.az = true /\ okV lv = true /\ lv.cells.length = 3 /\ V.agg (List.take 3 lv.cells) = lv:=by rw [<- LM]; exact ⟨rfl,rfl,rfl,rfl,rfl⟩
 obtain ⟨v1,v2,v3,v4,v5⟩:=sj
 rw [LM] at hc hr ⊢
 simp [go_sem,C15,hf,v1,v2,v3,v4,v5]
 refine ah hc ?_
 by_cases e0:c.2 = 0
 ·rw [if_pos e0] at eZ
  obtain ⟨q1,q2,q3,q4,q5,q6,q7⟩:=nJ e0
  simp [go_sem,hf,v1,v2,v3,v4,v5,iI,e0]
  refine ar (hr (by omega) q6 (fun e he=>uz (q7 e he) (bB e he)) bx) ?_
  rintro r bP ⟨p,ad,rfl,hp,hw⟩
  obtain ⟨pb,pc,pr,pm,pw',hn⟩:=hw.names hp
  have au:=hw.row hn
  unfold iv at au
  have bg:=hw.fin
  have ho:=hw.GN
  simp [go_sem,bg,au,ho.strip,ho.live]
  refine fw 2 (by simp [go_sem,ho.strip,ho.live]) hw.ext ?_
  have e4:∀ vv,vv = jJ (ad .aI) 2 s.aI.length -> cK bP bx 2 (kG prog ⟨19,bR [(2,vv),(3,.int .i64 0)],bP⟩ [.tmp 2,.tmp 3]) = .dc [cK bP bx 1 vv,.int .i64 0]:=fun vv hv=>by
   have e5:vv.strip = vv:=by rw [hv]; exact ho.strip
   simp [go_sem,cK,e5]
  rw [e4 _ rfl,eZ]
  exact ⟨rfl,_,hw.Pn,rfl⟩
 ·rw [if_neg e0] at eZ
  simp [go_sem,hf,iI,e0]
  refine aA (by simp [go_sem]) ?_
  rw [eZ]
  exact ⟨rfl,.aH,.inr ⟨rfl,rfl⟩,by simp [go_sem,iI]⟩
def kK (n:Nat) (F:List (Int × Int)):List Int × Bool:=if F.any (fun f=>decide (f.2 < (n:Int) - 1)) then ([],false) else (F.map (·.1),true)
def ct (L:List eR) (most:Int) (l:List Ex):List Int × Bool:=kK l.length (eF (fp L most l) l l.length).aI
theorem pZ {bx:aa} {b:Nat} (hb:bx b = none):aB bx b none = bx:=by
 funext c
 by_cases e:c = b
 ·rw [e,af,hb]
 ·rw [ae _ _ e]
theorem aY.beside {bx:aa} {e sz:Nat} {es:List V} {v:V} (ho:aY bx e sz es v) {b:Nat} (hb:bx b = none) (x:Option bF):aY (aB bx b x) e sz es v:=by
 rcases ho with h | ⟨b2,hv,cz⟩
 ·exact .inl h
 ·exact .inr ⟨b2,hv,by rw [ae _ _ (by rintro rfl; rw [cz] at hb; cases hb),cz]⟩
theorem u3 {n:Nat} {F:List (Int × Int)} {j:Nat} (hj:j < F.length) (h:F[j].2 < (n:Int) - 1):kK n F = ([],false):=by
 unfold kK
 rw [if_pos (List.any_eq_true.2 ⟨_,List.getElem_mem hj,by simpa using h⟩)]
theorem rS {n:Nat} {F:List (Int × Int)} (h:∀ j (hj:j < F.length),¬ F[j].2 < (n:Int) - 1):kK n F = (F.map (·.1),true):=by
 unfold kK
 rw [if_neg]
 intro h2
 obtain ⟨f,hf,h3⟩:=List.any_eq_true.1 h2
 obtain ⟨j,hj,rfl⟩:=List.getElem_of_mem hf
 exact h j hj (by simpa using h3)
theorem Kl (L:List eR) (most:Int) (l:List Ex) (hL:L.length <= 1000) (hl:l.length <= 2000) (hv:∀ e,e ∈ l -> VE L.length e) (bx:aa):aw prog 43 [ck L most l] bx fun r bx'=>bx' = bx /\ ∃ v,BF 1 ((ct L most l).1.map iI) v /\ r = .dc [v,.bool (ct L most l).2]:=by
 obtain ⟨Kc,eZ⟩:∃ Kc:V -> aa -> Prop,Kc = fun r bx'=>bx' = bx /\ ∃ v,BF 1 ((ct L most l).1.map iI) v /\ r = .dc [v,.bool (ct L most l).2]:=⟨_,rfl⟩
 rw [<- eZ]
 refine VM fun hf=>?_
 have hr:=Hw L most l hL hl hv bx
 have hg:=fY (gx L most l) l.length
 unfold ct at eZ
 obtain ⟨s,hs⟩:∃ s,eF (fp L most l) l l.length = s:=⟨_,rfl⟩
 rw [hs] at hr eZ hg
 obtain ⟨R,hR⟩:∃ R,kK l.length s.aI = R:=⟨_,rfl⟩
 rw [hR] at eZ
 simp [go_sem,C43,hf,ck]
 refine ar hr ?_
 rintro r bP ⟨p,ad,rfl,hp,hw⟩
 obtain ⟨pb,pc,pr,pm,pw',hn⟩:=hw.names hp
 have au:=hw.row hn
 unfold iv at au
 have bg:=hw.fin
 have ho:=hw.GN
 have iH:=hw.ext
 have hlen:=fun bx2=>fW (bx2:=bx2) (t:=31) ho vR
 simp [go_sem,ho.strip,ho.live] at hlen
 have px:IntKind.i64.wrap ((l.length:Int) - 1) = (l.length:Int) - 1:=gN (by omega)
 have pY:=hg.aI
 simp [go_sem,bg,au,ho.strip,ho.live,hlen]
 cases hc:ad .aI with
 | none =>
   have h0:s.aI = []:=hw.none_ .aI hc trivial
   have Ro:R = ([],true):=by rw [<- hR,h0]; rfl
   simp only [h0,jJ,List.length_nil]
   refine ch 0 (fun k=>⟨31,bR [(1,.ep (.agg [.sl 4 (L.map bG),iI most,.sl 8 (l.map ey)]) 0),(4,.aH),(11,.aH),(12,.int .i64 0),(13,.int .i64 0)],bP⟩) (ak (by simp [go_sem,iI])) (fun k hk N hN=>by omega) (fun N=>?_)
   simp [go_sem,C2,bg]
   refine bp (by simp [go_sem]) iH ?_
   rw [eZ,Ro]
   exact ⟨rfl,.aH,.inr ⟨rfl,rfl⟩,by simp [go_sem]⟩
 | some b =>
   obtain ⟨dH,A2,_⟩:=hw.at_ .aI b hc
   have A2:bP b = some (.row nE 2 (s.aI.map bH)):=A2
   clear hlen ho
   generalize s.aI = F at *
   simp only [jJ]
   refine iM (ι:=V × aa) F.length (fun k q=>ba q.2 /\ Ext bx q.2 /\ q.2 b = some (.row nE 2 (F.map bH)) /\ aY q.2 3 1 (((F.take k).map (·.1)).map iI) q.1 /\ kg bx q.1 /\ ∀ j (hj:j < F.length),j < k -> ¬ F[j].2 < (l.length:Int) - 1) (fun k q=>⟨31,bR [(1,.ep (.agg [.sl 4 (L.map bG),iI most,.sl 8 (l.map ey)]) 0),(4,q.1),(11,.own b 2 0 F.length),(12,.int .i64 F.length),(13,.int .i64 k)],q.2⟩) (.aH,bP) ⟨bg,iH,A2,.inl ⟨rfl,rfl⟩,(show kg bx .aH from fun b sz o m e=>by cases e),fun j hj h=>absurd h (Nat.not_lt_zero _)⟩ (ak (by simp [go_sem,iI])) (fun k q hk hJ N hN=>?_) (fun q hJ N=>?_)
   ·obtain ⟨v,bx2⟩:=q
    obtain ⟨cm,cQ,cz,ho,xZ,gr⟩:=hJ
    dsimp only at cm cQ cz ho xZ gr ⊢
    have hw:=bj (k:=k) (by omega)
    simp [go_sem,C2,hk,cm,cz,bH,iI,px]
    intro b6 hb6
    rw [pZ hb6]
    refine ⟨fun h1=>?_,fun h1=>?_⟩
    ·have Pp:R = ([],false):=by rw [<- hR]; exact u3 hk h1
     refine bp (by simp [go_sem]) cQ ?_
     rw [eZ,Pp]
     exact ⟨rfl,.aH,.inr ⟨rfl,rfl⟩,by simp [go_sem]⟩
    ·intro b7 Ey
     have hn7:b ≠ b7:=by rintro rfl; rw [cz] at Ey; cases Ey
     have BE:bx b7 = none:=cQ.none Ey
     have Rr:=ho.beside Ey (some (bF.row 3 1 [V.int .i64 F[k].1]))
     have LN:ba (aB bx2 b7 (some (bF.row 3 1 [V.int .i64 F[k].1]))):=(an _ _ _).2 cm
     have Pq:Ext bx (aB bx2 b7 (some (bF.row 3 1 [V.int .i64 F[k].1]))):=cQ.aJ BE _
     have ff:aB bx2 b7 (some (bF.row 3 1 [V.int .i64 F[k].1])) b = some (.row nE 2 (F.map bH)):=by rw [ae _ _ hn7,cz]
     have Hy:aB bx2 b7 (some (bF.row 3 1 [V.int .i64 F[k].1])) b7 = some (bF.row 3 1 [V.int .i64 F[k].1]):=af _ _ _
     generalize aB bx2 b7 (some (bF.row 3 1 [V.int .i64 F[k].1])) = bx3 at *
     refine dx (.int .i64 0) Rr LN (news:=[iI F[k].1]) Gf FQ (by simp [go_sem,bM,Hy,iI]) FR (by simp [go_sem]) (by decide) (by simp [TU]; omega) (by simp; omega) (by simp [go_sem]) fun v' bx' ha hm _=>?_
     obtain ⟨e1,e2⟩:=hm.base Pq xZ
     have bB:∀ sz o m,v ≠ .own b sz o m:=Rr.ne ff (by decide)
     have aR:bx' b = _:=(hm.other (by rw [ff]; simp) bB).trans ff
     have fI:aY bx' 3 1 (((F.take (k + 1)).map (·.1)).map iI) v':=by
      rw [List.take_succ_eq_append_getElem hk,List.map_append,List.map_append]; exact ha
     simp [go_sem,hm.fin,ha.strip,ha.live,ha.cells,ha.okV,hw]
     exact hN _ (v',bx') ⟨hm.fin,e1,aR,fI,e2,fun j hj AO=>by
      rcases Nat.lt_or_ge j k with h | h
      ·exact gr j hj h
      ·have:j = k:=by omega
       subst this
       omega⟩ (ak (by simp [go_sem,iI]))
   ·obtain ⟨v,bx2⟩:=q
    obtain ⟨cm,cQ,cz,ho,xZ,gr⟩:=hJ
    dsimp only at cm cQ cz ho xZ gr ⊢
    have Pp:R = (F.map (·.1),true):=by rw [<- hR]; exact rS fun j hj=>gr j hj hj
    rw [List.take_of_length_le (Nat.le_refl _)] at ho
    simp [go_sem,C2,cm,ho.strip,ho.live]
    refine fw 2 (by simp [go_sem,ho.strip,ho.live]) cQ ?_
    have e4:cK bx2 bx 2 (kG prog ⟨31,bR [(2,v),(3,.bool true)],bx2⟩ [.tmp 2,.tmp 3]) = .dc [cK bx2 bx 1 v,.bool true]:=by simp [go_sem,cK,ho.strip]
    rw [e4,eZ,Pp]
    refine ⟨rfl,_,?_,rfl⟩
    rcases ho with ⟨h0,rfl⟩ | ⟨b3,rfl,nU⟩
    ·exact .inr ⟨h0,rfl⟩
    ·exact .inl (fe nU (xZ _ _ _ _ rfl) (by decide) rfl)
theorem BF.wk {sz:Nat} {es:List V} {v:V} (h:BF sz es v):Wk v (.sl sz es):=by
 rcases h with rfl | ⟨h0,rfl⟩
 ·exact Wk.refl _
 ·exact sA h0
theorem BG (L:List eR) (most:Int) (l:List Ex) (hL:L.length <= 1000000) (hl:l.length <= 4000000000000000000) (bB:∀ e,e ∈ l -> NE e) (bx:aa):ay prog 15 [ck L most l] bx (.dc [.sl 2 ((ga L most l).1.map bH),iI (ga L most l).2]):=by
 refine ay.wk ((Po L most l hL hl bB bx).mono ?_)
 rintro r bx' ⟨rfl,v,hv,rfl⟩
 exact ⟨pX hv.wk (Wk.refl _),rfl⟩
theorem Km (L:List eR) (most:Int) (l:List Ex) (hL:L.length <= 1000) (hl:l.length <= 2000) (hv:∀ e,e ∈ l -> VE L.length e) (bx:aa):ay prog 43 [ck L most l] bx (.dc [.sl 1 ((ct L most l).1.map iI),.bool (ct L most l).2]):=by
 refine ay.wk ((Kl L most l hL hl hv bx).mono ?_)
 rintro r bx' ⟨rfl,v,hv,rfl⟩
 exact ⟨pX hv.wk (Wk.refl _),rfl⟩
theorem Hz (es:List V) (hl:es.length <= 100000) (bx:aa):aw prog 42 [.sl 8 es] bx fun r bx'=>Acc bx 69 8 es r bx':=by
 refine L5 fun hf=>?_
 simp [go_sem,C42,hf]
 refine ⟨fun b hb=>?_,fun h0=>?_⟩
 ·refine jW (.agg #[.int .i64 0,.int .i64 0,.int .i64 0,.int .i64 0,.int .i64 0,.int .i64 0,.int .i64 0,.bool false]) (sB hb hf _ 8 [] 0 rfl) (Ext.refl _) ((an _ _ _).2 hf) r9 qa (news:=es) ?_ lD (by simp [go_sem]) (by decide) ?_ ?_ (by simp [go_sem]) fun v' bx3 ha=>?_
  ·simp [bM]
  ·simp [tS]; omega
  ·simp; omega
  ·simp only [List.nil_append] at ha
   simp [go_sem]
   refine al (by simp [go_sem,ha.live]) ?_
   simpa [go_sem,ha.strip] using ha
 ·subst h0
  refine al (by simp [go_sem]) ?_
  simpa [go_sem] using xw hf _ 8
theorem H0 (es:List V) (hl:es.length <= 100000) (bx:aa):ay prog 42 [.sl 8 es] bx (.sl 8 es):=by
 refine ay.wk ?_
 refine L5 fun hf=>?_
 simp [go_sem,C42,hf]
 refine ⟨fun b hb=>?_,fun h0=>?_⟩
 ·refine jW (.agg #[.int .i64 0,.int .i64 0,.int .i64 0,.int .i64 0,.int .i64 0,.int .i64 0,.int .i64 0,.bool false]) (sB hb hf _ 8 [] 0 rfl) (Ext.refl _) ((an _ _ _).2 hf) r9 qa (news:=es) ?_ lD (by simp [go_sem]) (by decide) ?_ ?_ (by simp [go_sem]) fun v' bx3 ha=>?_
  ·simp [bM]
  ·simp [tS]; omega
  ·simp; omega
  ·simp only [List.nil_append] at ha
   simp [go_sem]
   refine z6 (e:=69) (by simp [go_sem,ha.live]) ?_ (by decide)
   simpa [go_sem,ha.strip] using ha
 ·refine Cq (by simp [go_sem]) ?_
  simpa [go_sem] using sA h0
theorem H2 (es:List V) (hl:es.length <= 100000) (bx:aa):ay prog 41 [.sl 4 es] bx (.sl 4 es):=by
 refine ay.wk ?_
 refine VL fun hf=>?_
 simp [go_sem,C41,hf]
 refine ⟨fun b hb=>?_,fun h0=>?_⟩
 ·refine jW (.agg #[.int .i64 0,.int .i64 0,.int .i64 0,.int .i64 0]) (sB hb hf _ 4 [] 0 rfl) (Ext.refl _) ((an _ _ _).2 hf) FU xC (news:=es) ?_ zB (by simp [go_sem]) (by decide) ?_ ?_ (by simp [go_sem]) fun v' bx3 ha=>?_
  ·simp [bM]
  ·simp [FZ]; omega
  ·simp; omega
  ·simp only [List.nil_append] at ha
   simp [go_sem]
   refine z6 (e:=111) (by simp [go_sem,ha.live]) ?_ (by decide)
   simpa [go_sem,ha.strip] using ha
 ·refine Cq (by simp [go_sem]) ?_
  simpa [go_sem] using sA h0
theorem Kn (a b:List Int) (ha:a.length <= 1000000) (bx:aa):ay prog 45 [.sl 1 (a.map iI),.sl 1 (b.map iI)] bx (.bool (decide (a = b))):=by
 refine VN fun hf=>?_
 by_cases he:a.length = b.length
 rotate_left
 ·have nS:¬ (a.length:Int) = b.length:=by omega
  have hz:decide (a = b) = false:=by simp; rintro rfl; exact he rfl
  simp [go_sem,C45,hf,nS,he]
  exact aA (by simp [go_sem]) ⟨by simp [go_sem,hz],rfl⟩
 ·have nS:(a.length:Int) = b.length:=by omega
  simp [go_sem,C45,hf,nS,he]
  refine eG b.length (fun i=>a.getD i 0 != b.getD i 0) (fun i=>⟨26,bR [(0,.sl 1 (a.map iI)),(1,.sl 1 (b.map iI)),(12,.int .i64 b.length),(13,.int .i64 i)],bx⟩) (ak (by simp [go_sem])) (fun i hi hJ N hN=>?_) (fun hJ N=>?_)
  ·have hia:i < a.length:=by omega
   have hw:=bj (k:=i) (by omega)
   have g1:a.getD i 0 = a[i]:=by simp [hia]
   have g2:b.getD i 0 = b[i]:=by simp [hi]
   rw [g1,g2] at hN
   by_cases e:a[i] = b[i]
   ·simp [go_sem,C3,hf,hi,hia,hw,iI,e]
    exact hN _ (by simp [e]) (ak (by simp [go_sem]))
   ·have hz:decide (a = b) = false:=by simp; rintro rfl; exact e rfl
    simp [go_sem,C3,hf,hi,hia,hw,iI,e]
    exact aA (by simp [go_sem]) ⟨by simp [go_sem,hz],rfl⟩
  ·have hz:a = b:=by
    apply List.ext_getElem he
    intro i h1 h2
    have:=hJ i h2
    simpa [h1,h2] using this
   simp [go_sem,C3,hf]
   exact aA (by simp [go_sem]) ⟨by simp [go_sem,hz],rfl⟩
end Go.Proofs
namespace Go.Pl
open Go
theorem vm {P:Program} {ops:Array Oper} {o:Oper} {a:Act} {w w':World} {K:Act -> World -> Prop} {Q:Exit -> Act -> World -> Prop} {E:Prop}
 (hg:o.guard = none) (s x:Operand) (t:TypeId) (c9:o.op = Op.call { callee:=Callee.builtin Builtin.append,args:=#[s,x],argTypes:=#[t,t] })
 (vs vx r:Value) (hs:a.eval s = vs) (hx:a.eval x = vx) (dX:(Builtin.append_ #[t,t] o.type #[vs,vx]).run P w = .ok r w')
 (hK:K (a.put o.dst r) w') :
 if Region.wanted o (yielded ops a.tmps) = true then Oper.wp P o a w K Q else E:=by
 have hw:Region.wanted o (yielded ops a.tmps) = true:=by simp [Region.wanted,hg]
 rw [if_pos hw]
 unfold Oper.wp
 simp [execOp,c9,resolve,invoke,builtin,hs,hx,dX,Result.andThen]
 exact hK
theorem BH {P:Program} {w:World} {t ty e:TypeId} {i:TypeInfo} {z:Value} {fr:Nat × Nat} (ht:P.underlying t = some (.slice e)) (hi:P.info? e = some i) (hz:i.zero = some z) (hz8:z.cells.size = 8) (Mm:∀ v ∈ z.cells.toList,v.oneCell' = true) {blk o cap:Nat} {mj:TypeId} {cur:Array Value} (aU:w.heap[blk]? = some (.cells cur mj fr)) (iA:p0 cur.size fr) (fB:o + 8 <= cur.size) :
 (Builtin.clear_ #[t] ty #[.slice (some ⟨blk,o,none⟩) 1 cap]).run P w = .ok (.tuple #[]) (w.setRow blk (cur.toList.take o ++ z.cells.toList ++ cur.toList.drop (o + 8)).toArray):=by
 have hzc:(Builtin.zeroCells z.cells 1).toList = z.cells.toList:=by
  simp [Builtin.zeroCells,hz8]
  apply List.ext_getElem
  ·simp [hz8]
  ·intro i h1 h2
   have:i < 8:=by simpa using h1
   simp [Nat.mod_eq_of_lt this,show i < z.cells.size by omega]
 have iB:=du (P:=P) blk o mj fr z.cells.toList 0 cur w aU iA (by simpa [hz8] using fB) Mm
 simp only [Nat.add_zero,Array.length_toList,hz8] at iB
 simp [Builtin.clear_,run_underlying ht,zeroValue,typeInfo,hi,hz,hzc,iB]
end Go.Pl
namespace Go.Proofs
open Go Go.Pl Go.Lib Go.RowKit Go.Shelf Tryz
set_option maxRecDepth 100000 in
theorem Ez (w:World) (b n c i:Nat) (cur:Array Value) {fr:Nat × Nat} (hg:w.heap[b]? = some (.cells cur 69 fr)) (iA:p0 cur.size fr) (hi:i < n) (si:n <= c) (hc63:c <= 9223372036854775807) (kP:c * 8 <= cur.size)
 (h1c:∀ j,j < n * 8 -> (cur.getD j undef).oneCell' = true) :
 Calls prog 44 #[.slice (some ⟨b,0,none⟩) n c,.int .i64 i,.int .i64 ((i:Int) + 1)] w fun e w' =>
  e = .returned (.slice (some ⟨b,0,none⟩) (n - 1) c) /\ ∃ cur',w' = w.drew.setRow b cur' /\ cur'.size = cur.size /\ cur'.toList.take ((n - 1) * 8) = cur.toList.take (i * 8) ++ (cur.toList.drop ((i + 1) * 8)).take ((n - 1 - i) * 8):=by
 have uS:prog.underlying 23 = some (.slice 69):=by kernel_rfl
 have uT:=run_underlying uS
 have mixed:prog.follows .mixedOrders = true:=by kernel_rfl
 obtain ⟨i0,Xt,BX,z,hz0,Fb,Mm⟩:∃ i0,prog.info? 69 = some i0 /\ i0.size = 8 /\ ∃ z,i0.zero = some z /\ z.cells.size = 8 /\ ∀ v ∈ z.cells.toList,v.oneCell' = true:=by
  refine ⟨(prog.info? 69).get (by kernel_rfl),by kernel_rfl,by kernel_rfl,((prog.info? 69).get (by kernel_rfl)).zero.get (by kernel_rfl),by kernel_rfl,by kernel_rfl,?_⟩
  have e:(((prog.info? 69).get (by kernel_rfl)).zero.get (by kernel_rfl)).cells.toList = [.int .i64 0,.int .i64 0,.int .i64 0,.int .i64 0,.int .i64 0,.int .i64 0,.int .i64 0,.bool false]:=by kernel_rfl
  rw [e]
  intro v hv
  simp at hv
  rcases hv with rfl | rfl <;> rfl
 have dH:w.drew.heap[b]? = some (.cells cur 69 fr):=hg
 obtain ⟨news,kT⟩:∃ news,news = (cur.toList.drop ((i + 1) * 8)).take ((n - 1 - i) * 8):=⟨_,rfl⟩
 have hnl:news.length = (n - 1 - i) * 8:=by rw [kT]; simp; omega
 have bD:∀ j v,news[j]? = some v -> w.drew.cell? ⟨b,(i + 1) * 8 + j,none⟩ = some v:=fun j v hj=>by
  rw [kT,List.getElem?_take] at hj
  split at hj
  ·rw [List.getElem?_drop] at hj
   rw [cell_of_row w.drew b _ cur 69 fr dH]; simpa using hj
  ·cases hj
 have xv:∀ v ∈ news,v.oneCell' = true:=fun v hv=>by
  obtain ⟨j,hj,rfl⟩:=List.getElem_of_mem hv
  have h3:=bD j _ (List.getElem?_eq_getElem hj)
  rw [cell_of_row w.drew b _ cur 69 fr dH] at h3
  have h2:=h1c ((i + 1) * 8 + j) (by omega)
  rw [Array.getD_eq_getD_getElem?,h3] at h2
  exact h2
 obtain ⟨A,hA,ka⟩:∃ A:Addr,(if c = i + 1 then some (⟨b,0,none⟩:Addr) else some ⟨b,(i + 1) * 8,none⟩) = some A /\ Hid (∀ t u,news[t]? = some u -> w.drew.cell? (A.add t) = some u):=by
  by_cases h:c = i + 1
  ·refine ⟨⟨b,0,none⟩,by simp [h],fun t u hu=>?_⟩
   have h0:news.length = 0:=by rw [hnl]; omega
   rw [List.length_eq_zero_iff.1 h0] at hu
   simp at hu
  ·refine ⟨⟨b,(i + 1) * 8,none⟩,by simp [h],fun t u hu=>?_⟩
   rw [Addr.add_lit]; exact bD t u hu
 obtain ⟨row1,fN⟩:∃ row1,row1 = (cur.toList.take (i * 8) ++ news ++ cur.toList.drop (i * 8 + news.length)).toArray:=⟨_,rfl⟩
 have ma:row1.size = cur.size:=by rw [fN]; simp; omega
 have su:∀ mj cc,(Builtin.append_ #[23,23] mj #[.slice (some ⟨b,0,none⟩) i c,.slice (some A) (n - (i + 1)) cc]).run prog w.drew = .ok (.slice (some ⟨b,0,none⟩) (i + (n - (i + 1))) c) (w.drew.setRow b row1):=fun mj cc=>by
  have h:=jO (P:=prog) (w:=w.drew) 23 mj 69 i0 uS Xt b i c cur dH iA A (n - (i + 1)) cc news (by rw [BX,hnl]; omega) ka.out xv (by omega) (by rw [BX]; omega)
  rw [h,fN,BX]
 obtain ⟨W1,hW1⟩:∃ W1,W1 = w.drew.setRow b row1:=⟨_,rfl⟩
 have Xw:W1.heap[b]? = some (.cells row1 69 fr):=by rw [hW1]; exact setRow_heap w.drew b cur _ 69 _ dH
 obtain ⟨row2,fO⟩:∃ row2,row2 = (row1.toList.take ((n - 1) * 8) ++ z.cells.toList ++ row1.toList.drop ((n - 1) * 8 + 8)).toArray:=⟨_,rfl⟩
 have jj:∀ ty,(Builtin.clear_ #[23] ty #[.slice (some ⟨b,(i + (n - (i + 1))) * 8,none⟩) (n - (i + (n - (i + 1)))) (c - (i + (n - (i + 1))))]).run prog W1 = .ok (.tuple #[]) (W1.setRow b row2):=fun ty=>by
  rw [show i + (n - (i + 1)) = n - 1 by omega,show n - (n - 1) = 1 by omega,fO]
  exact BH uS Xt hz0 Fb Mm Xw (by rw [ma]; exact iA) (by rw [ma]; omega)
 have X:Aside (W1.setRow b row2 = w.drew.setRow b row2 /\ row2.size = cur.size /\ row2.toList.take ((n - 1) * 8) = cur.toList.take (i * 8) ++ (cur.toList.drop ((i + 1) * 8)).take ((n - 1 - i) * 8)):=by
  refine ⟨by rw [hW1,setRow_setRow],by rw [fO]; simp [Fb,ma]; omega,?_⟩
  have l1:(cur.toList.take (i * 8) ++ news).length = (n - 1) * 8:=by simp [hnl]; omega
  have e1:row1.toList.take ((n - 1) * 8) = cur.toList.take (i * 8) ++ news:=by
   rw [fN]
   show List.take _ (cur.toList.take (i * 8) ++ news ++ _) = _
   rw [<- l1,List.take_left]
  rw [fO]
  show List.take _ (List.take ((n - 1) * 8) row1.toList ++ z.cells.toList ++ _) = _
  rw [e1,List.append_assoc,<- l1,List.take_left,kT]
 have hW:Hid (W1 = w.drew.setRow b row1):=hW1
 have af4:¬ ((i:Int) = (i:Int) + 1):=by omega
 have hic:i <= c:=by omega
 have hjc:i + 1 <= c:=by omega
 have hjn:i + 1 <= n:=by omega
 have ja:IntKind.i64.wrap ((i:Int) + 1) = (i:Int) + 1:=by rw [IntKind.wrap_i64]; omega
 have htn:((i:Int) + 1).toNat = i + 1:=by omega
 have eK:(0:Int) <= (i:Int) + 1:=by omega
 have nU:(i:Int) <= (i:Int) + 1:=by omega
 have Ep:(i:Int) + 1 <= (n:Int):=by omega
 clear hW1 Xw bD xv hnl kT ma fN fO
 go_enter func44,Tryz.ntmps44
 go_wp2_with fail
 go_region_law_o (refine vm rfl (.tmp 22) (.tmp 25) 23 rfl (.slice (some ⟨b,0,none⟩) i c) (.slice (some A) (n - (i + 1)) (c - (i + 1))) _ (by simp [Act.eval,Act.put]) (by simp [Act.eval,Act.put]) (su _ (c - (i + 1))) ?_; rw [<- hW.out])
 go_wp2
 go_ret
 refine ⟨by rw [show n - 1 = i + (n - (i + 1)) by omega]; rfl,row2,X.out⟩
end Go.Proofs
namespace Go.Pl
open Go
theorem aw.cK {P:Program} {f:FuncId} {args:List V} {bx:aa} {Kc K2:V -> aa -> Prop} (h:aw P f args bx Kc) (hs:∀ r bx',Kc r bx' -> ∃ bx2 d,bX bx' bx2 /\ K2 (Go.Pl.cK bx' bx2 d r) bx2):aw P f args bx K2:=by
 refine ⟨h.1,fun β M w vs h1 h2 h3 h4=>(h.2 β M w vs h1 h2 h3 h4).mono ?_⟩
 rintro e w' ⟨v,r,bx',β',rfl,hk,c8,ht,bO⟩
 obtain ⟨bx2,d,nA,fJ⟩:=hs r bx' hk
 exact ⟨v,_,bx2,β',rfl,fJ,c8.sub nA,ht.trans nA.tr,l4 c8 nA d _ _ bO⟩
end Go.Pl
namespace Go.Proofs
open Go Go.Pl Tryz
theorem u4 {β:Beta} {w:World} {F:Nat -> Prop} {sz o n:Nat} {es:List V} {cur:Array Value} (h:dZ β w F sz es cur) (hn:o + n <= es.length):dZ β w F sz ((es.drop o).take n) ((cur.toList.drop (o * sz)).take (n * sz)).toArray:=by
 intro i e he
 rw [List.getElem?_take,List.getElem?_drop] at he
 split at he
 ·rename_i hi
  obtain ⟨h1,h2⟩:=h (o + i) e he
  refine ⟨h1,fun j c hc=>?_⟩
  have hj:j < sz:=by have:=(List.getElem?_eq_some_iff.1 hc).1; omega
  have hb:i * sz + j < n * sz:=by
   have:(i + 1) * sz <= n * sz:=Nat.mul_le_mul_right _ hi
   rw [Nat.succ_mul] at this
   omega
  have e2:((cur.toList.drop (o * sz)).take (n * sz)).toArray.getD (i * sz + j) undef = cur.getD ((o + i) * sz + j) undef:=by
   simp only [Array.getD_eq_getD_getElem?,List.getElem?_toArray,List.getElem?_take,hb,if_true,List.getElem?_drop,Array.getElem?_toList]
   congr 2
   rw [Nat.add_mul]; omega
  rw [e2]
  exact h2 j c hc
 ·cases he
theorem Ah {β:Beta} {w:World} {F:Nat -> Prop} {sz:Nat} {es:List V} {cur:Array Value} (h:dZ β w F sz es cur) (hs:0 < sz):∀ m,m < es.length * sz -> (cur.getD m undef).oneCell' = true:=by
 intro m hm
 have h4:m / sz < es.length:=(Nat.div_lt_iff_lt_mul hs).2 hm
 have h5:m % sz < sz:=Nat.mod_lt _ hs
 obtain ⟨h7,h8⟩:=h (m / sz) _ (List.getElem?_eq_getElem h4)
 have h9:=(h8 (m % sz) _ (List.getElem?_eq_getElem (by omega))).1
 have qu:m / sz * sz + m % sz = m:=by
  have:=Nat.div_add_mod m sz
  rw [Nat.mul_comm] at this
  omega
 rw [qu] at h9
 exact h9
theorem BI {bx:aa} {b:Nat} {es:List V} {i:Nat} (hb:bx b = some (.row 69 8 es)) (hi:i < es.length) :
 aw prog 44 [.own b 8 0 es.length,.int .i64 i,.int .i64 ((i:Int) + 1)] bx fun r bx'=>∃ b',aB bx b none b' = none /\ r = .own b' 8 0 (es.length - 1) /\ bx' = aB (aB bx b none) b' (some (.row 69 8 (es.take i ++ es.drop (i + 1)))):=by
 refine ⟨enters_of func44 (by kernel_rfl) rfl,fun β M w vs c8 kN jz bO=>?_⟩
 have h0:=bO 0 _ rfl
 have h1:=bO 1 _ rfl
 have h2:=bO 2 _ rfl
 have Xx:vs = #[vs.getD 0 undef,vs.getD 1 undef,vs.getD 2 undef]:=by
  apply Array.ext
  ·simpa using jz
  ·intro k k1 k2
   have k3:k < 3:=by simpa using k2
   rcases k with _ | _ | _ | k
   ·simp [k1]
   ·simp [k1]
   ·simp [k1]
   ·omega
 rw [Xx]
 generalize vs.getD 0 undef = u0 at *
 generalize vs.getD 1 undef = u1 at *
 generalize vs.getD 2 undef = u2 at *
 clear Xx jz bO
 generalize hN:es.length = n at h0
 cases h1
 cases h2
 cases h0 with
 | mi _ _ bQ=>omega
 | own _ _ _ _ blk cap m mj bQ hs hm hn gZ =>
   subst hN
   rcases c8.live b _ hb with ⟨h3,_⟩ | ⟨blk',h3,dr,hMn,cur,fr,aU,iA,RU,au⟩
   ·rw [bQ] at h3; cases h3
   ·rw [bQ] at h3
    injection h3 with h3
    injection h3 with h3
    subst h3
    have kP:cap * 8 <= cur.size:=by
     rw [bN aU] at hs
     injection hs with hs
     injection hs with _ hs
     rw [hs]; simpa using hm
    have Fo:∀ j,j < es.length * 8 -> (cur.getD j undef).oneCell' = true:=Ah au (by decide)
    have R1:=u4 (o:=0) (n:=i) au (by omega)
    have R3:=u4 (o:=i + 1) (n:=es.length - 1 - i) au (by omega)
    simp only [List.drop_zero,Nat.zero_mul] at R1
    have e3:(es.drop (i + 1)).take (es.length - 1 - i) = es.drop (i + 1):=List.take_of_length_le (by simp; omega)
    rw [e3] at R3
    have l1:(List.take (i * 8) cur.toList).length = (es.take i).length * 8:=by simp; omega
    have hlen:(es.take i ++ es.drop (i + 1)).length = es.length - 1:=by simp; omega
    have row:∀ cur':Array Value,cur'.toList.take ((es.length - 1) * 8) = cur.toList.take (i * 8) ++ (cur.toList.drop ((i + 1) * 8)).take ((es.length - 1 - i) * 8) -> dZ β w (Fz β M bx w) 8 (es.take i ++ es.drop (i + 1)) cur':=fun cur' ec=>by
     refine om (sz:=8) (es:=es.take i) (news:=es.drop (i + 1)) (xs:=List.take (i * 8) cur.toList) (vals:=(cur.toList.drop ((i + 1) * 8)).take ((es.length - 1 - i) * 8)) l1 R1 R3 (by simp; omega) cur' (by
      rw [<- ec]
      congr 1
      simp; omega)
    obtain ⟨b',eK,cz⟩:=c8.fresh
    have uU:aB bx b none b' = none:=by
     by_cases e0:b' = b
     ·subst e0; exact af _ _ _
     ·rw [ae _ _ e0]; exact cz
    simp only [Nat.zero_mul]
    refine (Ez w blk es.length cap i cur aU iA hi hn (by simp only [maxLen] at gZ; omega) kP Fo).mono ?_
    rintro e w' ⟨rfl,cur',rfl,IV,L7⟩
    have jx:∀ k,k ≠ blk -> (w.drew.setRow blk cur').heap[k]? = w.heap[k]?:=fun k hk=>setRow_other w.drew blk k cur' hk
    have yB:(w.drew.setRow blk cur').heap[blk]? = some (.cells cur' 69 fr):=setRow_heap w.drew blk cur cur' _ _ aU
    have hss:(w.drew.setRow blk cur').heap.size = w.heap.size:=by simp [World.setRow]
    have fj:∀ k y,w.shape? k = some y -> (w.drew.setRow blk cur').shape? k = some y:=fun k y hy=>by
     by_cases e:k = blk
     ·subst e
      rw [bN yB,IV,<- bN aU]; exact hy
     ·rw [bI (jx k e)]; exact hy
    obtain ⟨h5,h6⟩:=BW c8 b eK (w':=w.drew.setRow blk cur') rfl rfl rfl (Nat.le_succ _) (by rw [hss]; exact Nat.le_refl _) (fun k ee fJ=>jx k fun e=>fJ (by rw [hb]; simp) (by rw [e]; exact bQ)) fj (some blk) 69 8 (es.take i ++ es.drop (i + 1)) (.inl (by decide)) (fun h=>by cases h) (fun g hg=>by
     injection hg with hg
     subst hg
     exact ⟨.inr ⟨by rw [hb]; simp,bQ⟩,by rw [hss]; exact dr,cur',fr,yB,by rw [IV]; exact iA,by rw [hlen]; omega,row cur' L7⟩)
    refine ⟨_,_,_,_,rfl,⟨b',uU,rfl,rfl⟩,h5,h6,?_⟩
    have:=aP.own (β:=aB β b' (some (some blk))) (w:=w.drew.setRow blk cur') (F:=Fz (aB β b' (some (some blk))) M (aB (aB bx b none) b' (some (.row 69 8 (es.take i ++ es.drop (i + 1))))) (w.drew.setRow blk cur')) b' 8 0 (es.length - 1) blk cap _ 69 (af _ _ _) (bN yB) (by rw [IV]; simpa using kP) (by omega) (by simpa using gZ)
    simpa using this
theorem BJ {bx:aa} {b:Nat} {es:List V} {i:Nat} (hb:bx b = some (.row 69 8 es)) (hi:i < es.length) :
 aw prog 44 [.own b 8 0 es.length,.int .i64 i,.int .i64 ((i:Int) + 1)] bx fun r bx'=>r = .sl 8 (es.take i ++ es.drop (i + 1)) /\ bx' = aB bx b none:=by
 refine (BI hb hi).cK ?_
 rintro r bx' ⟨b',aR,rfl,rfl⟩
 refine ⟨aB bx b none,1,(((Ext.refl (aB bx b none)).aJ aR _).sub),?_,rfl⟩
 exact fe (af _ _ _) aR (by decide) (by simp; omega)
end Go.Proofs
namespace Go.Proofs
open Go Go.Pl Tryz
def bK (l:List Ex) (k:Nat):List Ex:=l.take k ++ l.drop (k + 1)
def iP (ok:List Ex -> Bool) (l:List Ex) (k:Nat):List Ex:=if ok (bK l k) then bK l k else l
def fP (ok:List Ex -> Bool):Nat -> List Ex -> List Ex
 | 0,l=>l
 | k + 1,l=>fP ok k (iP ok l k)
def j5 (ok:List Ex -> Bool):Nat -> List Ex -> List Ex
 | 0,l=>l
 | n + 1,l=>if (fP ok (l.length - 1) l).length = l.length then fP ok (l.length - 1) l else j5 ok n (fP ok (l.length - 1) l)
theorem jX {l:List Ex} {k:Nat} (h:k < l.length):(bK l k).length = l.length - 1:=by
 unfold bK; simp; omega
theorem pg (l:List Ex) (k:Nat):(bK l k).Sublist l:=by
 unfold bK
 have h:=List.take_append_drop k l
 have h2:(l.drop (k + 1)).Sublist (l.drop k):=by
  have:l.drop (k + 1) = (l.drop k).drop 1:=by rw [List.drop_drop]
  rw [this]
  exact List.drop_sublist _ _
 have h3:=(List.Sublist.refl (l.take k)).append h2
 rw [h] at h3
 exact h3
theorem Ai {l:List Ex} {k:Nat} (h:k + 1 < l.length):(bK l k).getLast? = l.getLast?:=by
 unfold bK
 rw [List.getLast?_append,List.getLast?_drop,if_neg (by omega)]
 cases hl:l.getLast? with
 | none=>rw [List.getLast?_eq_none_iff] at hl; subst hl; simp at h
 | some x=>rfl
theorem u6 (ok:List Ex -> Bool) {l:List Ex} {k:Nat} (h:k < l.length):l.length - 1 <= (iP ok l k).length /\ (iP ok l k).length <= l.length:=by
 unfold iP
 have hl:=jX h
 split
 ·omega
 ·omega
theorem H3 (ok:List Ex -> Bool) (l:List Ex) (k:Nat):(iP ok l k).Sublist l:=by
 unfold iP
 split
 ·exact pg l k
 ·exact .refl _
theorem lh (ok:List Ex -> Bool):∀ (k:Nat) (l:List Ex),k < l.length -> (fP ok k l).length <= l.length /\ 1 <= (fP ok k l).length
 | 0,l,h=>⟨Nat.le_refl _,h⟩
 | k + 1,l,h=>by
   have h1:=u6 ok (l:=l) (k:=k) (by omega)
   have h2:=lh ok k (iP ok l k) (by omega)
   unfold fP
   omega
theorem nK (ok:List Ex -> Bool):∀ (k:Nat) (l:List Ex),(fP ok k l).Sublist l
 | 0,l=>.refl _
 | k + 1,l=>by
   unfold fP
   exact (nK ok k _).trans (H3 ok l k)
theorem u7 (ok:List Ex -> Bool):∀ (k:Nat) (l:List Ex),k < l.length -> (fP ok k l).getLast? = l.getLast?
 | 0,l,h=>rfl
 | k + 1,l,h=>by
   have h1:=u6 ok (l:=l) (k:=k) (by omega)
   unfold fP
   rw [u7 ok k _ (by omega)]
   unfold iP
   split
   ·exact Ai h
   ·rfl
theorem Aj (ok:List Ex -> Bool):∀ (k:Nat) (l:List Ex),ok l = true -> ok (fP ok k l) = true
 | 0,l,h=>h
 | k + 1,l,h=>by
   unfold fP
   refine Aj ok k _ ?_
   unfold iP
   split
   ·assumption
   ·exact h
theorem wi (ok:List Ex -> Bool):∀ (k:Nat) (l:List Ex),k < l.length -> (fP ok k l).length = l.length -> fP ok k l = l /\ ∀ i,i < k -> ok (bK l i) = false
 | 0,l,_,_=>⟨rfl,fun i hi=>by omega⟩
 | k + 1,l,h,he=>by
   have h1:=u6 ok (l:=l) (k:=k) (by omega)
   have h2:=lh ok k (iP ok l k) (by omega)
   unfold fP at he ⊢
   cases ho:ok (bK l k)
   ·have e:iP ok l k = l:=by unfold iP; rw [ho]; rfl
    rw [e] at he ⊢
    obtain ⟨h3,h4⟩:=wi ok k l (by omega) he
    refine ⟨h3,fun i hi=>?_⟩
    rcases Nat.lt_or_ge i k with h5 | h5
    ·exact h4 i h5
    ·rw [show i = k by omega]; exact ho
   ·have e:iP ok l k = bK l k:=by unfold iP; rw [ho]; rfl
    have hl:=jX (l:=l) (k:=k) (by omega)
    rw [e] at he h2
    omega
structure Xy (ok:List Ex -> Bool) (l R:List Ex):Prop where
 ok_:ok l = true -> ok R = true
 sub:R.Sublist l
 last:R.getLast? = l.getLast?
 pos:1 <= R.length
 min:∀ i,i + 1 < R.length -> ok (bK R i) = false
theorem u9 (ok:List Ex -> Bool):∀ (n:Nat) (l:List Ex),1 <= l.length -> l.length <= n -> Xy ok l (j5 ok n l)
 | 0,l,h1,h2=>by omega
 | n + 1,l,h1,h2=>by
   have h3:=lh ok (l.length - 1) l (by omega)
   unfold j5
   split
   ·rename_i he
    obtain ⟨h4,h5⟩:=wi ok (l.length - 1) l (by omega) he
    rw [h4]
    exact ⟨fun h=>h,.refl _,rfl,h1,fun i hi=>h5 i (by omega)⟩
   ·rename_i he
    have ih:=u9 ok n (fP ok (l.length - 1) l) h3.2 (by omega)
    exact ⟨fun h=>ih.ok_ (Aj ok _ _ h),ih.sub.trans (nK ok _ _),ih.last.trans (u7 ok _ _ (by omega)),ih.pos,ih.min⟩
theorem E0 (ok:List Ex -> Bool) (n:Nat) (l:List Ex) (h1:1 <= l.length) (h2:l.length <= n):1 <= (j5 ok n l).length /\ (j5 ok n l).length <= l.length:=⟨(u9 ok n l h1 h2).pos,(u9 ok n l h1 h2).sub.length_le⟩
def Xz (f g:Int × Int):Prop:=f.2 < g.2 \/ f.2 = g.2 /\ f.1 < g.1
theorem wj {E:List (Int × Int)} {k:Int} (hn:(E.map (·.1)).Nodup) (h2:∀ f,f ∈ E -> f.2 = k):∀ l:List (Int × Int),l.Sublist E -> l.Pairwise (fun a b=>a.1 <= b.1) -> l.Pairwise Xz
 | [],_,_=>.nil
 | f :: l,hs,hp=>by
   rw [List.pairwise_cons] at hp ⊢
   have hf:f ∈ E:=hs.subset (by simp)
   have nA:l.Sublist E:=(List.sublist_cons_self f l).trans hs
   have sk:((f :: l).map (·.1)).Nodup:=(hs.map _).nodup hn
   simp only [List.map_cons,List.nodup_cons] at sk
   refine ⟨fun g hg=>.inr ⟨by rw [h2 f hf,h2 g (nA.subset hg)],?_⟩,wj hn h2 l nA hp.2⟩
   have h3:=hp.1 g hg
   have h4:f.1 ≠ g.1:=fun e=>sk.1 (by rw [e]; exact List.mem_map_of_mem hg)
   omega
theorem Ko {E:List Int} {k:Nat} (hn:E.Nodup) (hk:∀ q,q ∈ E -> 1 <= q /\ q <= 13):(dK (E.map fun q=>(q,(k:Int)))).Pairwise Xz /\ ∀ f,f ∈ dK (E.map fun q=>(q,(k:Int))) -> f.2 = k /\ 1 <= f.1 /\ f.1 <= 13:=by
 have hp:=qP (E.map fun q=>(q,(k:Int)))
 have hm:∀ f,f ∈ dK (E.map fun q=>(q,(k:Int))) -> f.2 = k /\ 1 <= f.1 /\ f.1 <= 13:=fun f hf=>by
  obtain ⟨q,hq,rfl⟩:=List.mem_map.1 (hp.mem_iff.1 hf)
  exact ⟨rfl,hk q hq⟩
 refine ⟨wj (k:=k) ?_ (fun f hf=>(hm f hf).1) _ (List.Sublist.refl _) (ni _),hm⟩
 have h0:((E.map fun q=>(q,(k:Int))).map (·.1)) = E:=by rw [List.map_map]; exact List.map_id' E
 exact (hp.map (·.1)).nodup_iff.2 (by rw [h0]; exact hn)
theorem jK {s:IW} {l:List Ex} {k:Nat} {e:Ex} (h:l[k]? = some e):eF s l (k + 1) = il (eF s l k) k e.ev:=by show (match l[k]? with | some e=>_ | none=>_) = _; rw [h]
theorem lj {s:IW} {l:List Ex} {k:Nat} (h:l[k]? = none):eF s l (k + 1) = eF s l k:=by show (match l[k]? with | some e=>_ | none=>_) = _; rw [h]
theorem Ak {s:IW} (hi:pf s) (l:List Ex):∀ k,pf (eF s l k)
 | 0=>hi
 | k + 1=>by
   have ih:=Ak hi l k
   unfold eF
   split
   ·rename_i e _
    obtain ⟨E,_,_,_,_,h,_⟩:=uw (eF s l k) k e.ev ih
    exact h
   ·exact ih
theorem qR {s:IW} (hi:pf s) (l:List Ex) (k:Nat):∀ j,∃ G:List (Int × Int),(eF s l (k + j)).aI = (eF s l k).aI ++ G /\ G.Pairwise Xz /\ ∀ f,f ∈ G -> (k:Int) <= f.2 /\ f.2 < ((k + j:Nat):Int) /\ 1 <= f.1 /\ f.1 <= 13
 | 0=>⟨[],by simp,.nil,fun f hf=>by simp at hf⟩
 | j + 1=>by
   obtain ⟨G,h1,h2,h3⟩:=qR hi l k j
   show ∃ G,(eF s l ((k + j) + 1)).aI = _ /\ _
   cases he:l[k + j]? with
   | some e =>
     rw [jK he]
     obtain ⟨E,e1,e2,_,e4,_⟩:=uw (eF s l (k + j)) (k + j) e.ev (Ak hi l _)
     obtain ⟨p1,p2⟩:=Ko (k:=k + j) e1 e2
     refine ⟨G ++ dK (E.map fun q=>(q,((k + j:Nat):Int))),by rw [e4,h1,List.append_assoc],?_,fun f hf=>?_⟩
     ·rw [List.pairwise_append]
      refine ⟨h2,p1,fun f hf g hg=>.inl ?_⟩
      have:=(h3 f hf).2.1
      have:=(p2 g hg).1
      omega
     ·rcases List.mem_append.1 hf with h | h
      ·have:=h3 f h; omega
      ·have:=p2 f h; omega
   | none =>
     rw [lj he]
     exact ⟨G,h1,h2,fun f hf=>by have:=h3 f hf; omega⟩
theorem Df (L:List eR) (most:Int) (l0 l:List Ex) (n:Nat):(eF (fp L most l0) l n).aI.Pairwise Xz /\ ∀ f,f ∈ (eF (fp L most l0) l n).aI -> 0 <= f.2 /\ f.2 < n /\ 1 <= f.1 /\ f.1 <= 13:=by
 obtain ⟨G,h1,h2,h3⟩:=qR (gx L most l0).inv l 0 n
 have e:(eF (fp L most l0) l 0).aI = []:=rfl
 rw [e,List.nil_append,Nat.zero_add] at h1
 rw [h1]
 exact ⟨h2,fun f hf=>by have:=h3 f hf; omega⟩
def IW.ev (s:IW) (e:List Ex):IW:={ s with kO:=e }
def onE (e:List Ex) (z:IW × Bool):IW × Bool:=(z.1.ev e,z.2)
theorem eA (s:IW) (e:List Ex) (c:Bool) (k:Int):(s.ev e).aj c k = (s.aj c k).ev e:=by cases c <;> rfl
theorem gW (s:IW) (e:List Ex) (x:Ev) (q:IP):aW (s.ev e) x q = (aW s x q).ev e:=by unfold aW; split <;> rfl
theorem wm (s:IW) (e:List Ex) (x:Ev):gQ (s.ev e) x = gQ s x:=rfl
theorem wo (s:IW) (e:List Ex) (x:Int):fM (s.ev e) x = fM s x:=rfl
theorem yr (s:IW) (e:List Ex) (x:Ev):oY (s.ev e) x = oY s x:=rfl
theorem qS (s:IW) (e:List Ex) (x:Ev):gi (s.ev e) x = gi s x:=rfl
theorem yt (s:IW) (e:List Ex) (x:Ev):lG (s.ev e) x = lG s x:=rfl
theorem wq (s:IW) (e:List Ex) (x:Ev):gj (s.ev e) x = gj s x:=rfl
theorem E2 (s:IW) (e:List Ex) (x:Int):iO (s.ev e) x = iO s x:=rfl
theorem BK (s:IW) (e:List Ex) (x:Int):jD (s.ev e) x = jD s x:=rfl
theorem ph (s:IW) (e:List Ex) (x:Ev):bL (s.ev e) x = (bL s x).ev e:=rfl
theorem sS (s:IW) (e:List Ex) (i:Nat) (b:IB):(s.ev e).aQ i b = (s.aQ i b).ev e:=rfl
theorem yu (s:IW) (e:List Ex) (i:Nat) (b:IC):(s.ev e).bh i b = (s.bh i b).ev e:=rfl
theorem yv (s:IW) (e:List Ex) (i:Nat) (b:IR):(s.ev e).dU i b = (s.dU i b).ev e:=rfl
theorem Al (s:IW) (e:List Ex) (i:Nat) (x:Ev):j3 (s.ev e) i x = (j3 s i x).ev e:=by
 unfold j3
 exact gW { s with aq:=s.aq.set i { s.aq.getD i kJ with st:=1,call:=x.call,bt:=cH ((s.aq.getD i kJ).bt + 1) } } e x _
theorem rT (s:IW) (e:List Ex) (x:Ev):bd (s.ev e) x = onE e (bd s x):=by
 unfold bd
 rw [E2,BK]
 split
 ·exact congrArg (fun z=>(z,true)) (gW { s with ai:=s.ai.set x.bk { s.ai.getD x.bk gp with ax:=cH ((s.ai.getD x.bk gp).ax - 1) } } e x dF)
 ·rfl
theorem yw (s:IW) (e:List Ex):(s.ev e).ai = s.ai:=rfl
theorem pj (s:IW) (e:List Ex):(s.ev e).aq = s.aq:=rfl
theorem uA (s:IW) (e:List Ex):(s.ev e).aE = s.aE:=rfl
theorem yx (s:IW) (e:List Ex):(s.ev e).aN = s.aN:=rfl
theorem Pr (s:IW) (e:List Ex):(s.ev e).now = s.now:=rfl
theorem Kp (s:IW) (e:List Ex):(s.ev e).most = s.most:=rfl
theorem Dg (s:IW) (e:List Ex):(s.ev e).stop = s.stop:=rfl
theorem H4 (s:IW) (e:List Ex) (x:Ev):eT (s.ev e) x = onE e (eT s x):=by
 unfold eT
 split
 ·unfold pa
  rw [uA,Dg]
  split <;> rfl
 ·unfold rK
  rw [wo]
  split
  ·rfl
  ·dsimp only
   simp only [eA,sS,yv,yw,uA,Kp]
   split <;> simp only [eA,sS,yv] <;> rfl
 ·unfold qe
  rw [wm,yr]
  split
  ·rfl
  ·dsimp only
   simp only [eA,sS,gW,yw,yx]
   rfl
 ·unfold mY
  rw [wm]
  split
  ·simp only [ph,gW]; rfl
  ·rfl
 ·unfold rJ
  rw [yr]
  split
  ·dsimp only
   simp only [eA,wq,ph,sS,gW,yw,yx]
   rfl
  ·rfl
 ·exact rT s e x
 ·unfold rL
  rw [pj,rT]
  split
  ·rfl
  ·dsimp only [onE]
   split
   ·split
    ·generalize (bd s x).1 = d
     exact congrArg (fun z=>(z,true)) (Al (({ d with aq:=d.aq ++ [(⟨x.conn,x.bk,0,d.now,-1,0,0,3,0,0⟩:IC)],ord:=d.ord ++ [x.conn] }:IW).aQ x.bk { d.ai.getD x.bk gp with cJ:=cH ((d.ai.getD x.bk gp).cJ + 1) }) e d.aq.length x)
    ·rfl
   ·rfl
 ·unfold ng
  rw [yr,qS]
  split
  ·split
   ·rfl
   ·dsimp only
    rw [pj]
    split
    ·rfl
    ·split
     ·rfl
     ·simp only [eA,wq,ph,Al,Pr,yx]
      rfl
  ·rfl
 ·unfold rH
  rw [yt,uA]
  split
  ·rfl
  ·split
   ·rfl
   ·dsimp only
    simp only [eA,yv,yu,pj,uA]
    rfl
 ·unfold rG
  rw [yt]
  split
  ·rfl
  ·dsimp only
   simp only [eA,yu,pj]
   rfl
 ·unfold rE
  rw [yt]
  split
  ·rfl
  ·simp only [yu,gW,pj]
   rfl
 ·unfold rF
  rw [qS]
  split
  ·rfl
  ·dsimp only
   rw [pj]
   (repeat' split) <;> rfl
 ·unfold mZ
  rw [qS]
  split
  ·rfl
  ·dsimp only
   rw [pj]
   split <;> rfl
 ·rfl
 ·rfl
 ·unfold ky
  rw [uA]
  split
  ·rfl
  ·dsimp only
   rw [yw]
   (repeat' split) <;> rfl
 ·unfold yh
  rw [wo]
  split <;> rfl
 ·rfl
 ·unfold qi
  rw [Dg]
  split
  ·exact congrArg (fun z=>(z,true)) (eA s e _ 11)
  ·rfl
theorem H5 (s:IW) (e:List Ex) (k:Nat) (x:Ev):il (s.ev e) k x = (il s k x).ev e:=by
 unfold il
 have h1:({ s.ev e with at_:=(k:Int) }:IW) = ({ s with at_:=(k:Int) }:IW).ev e:=rfl
 dsimp only
 rw [h1]
 generalize ({ s with at_:=(k:Int) }:IW) = s0
 have h2:fo (s0.ev e) x = (fo s0 x).ev e:=by
  unfold fo
  rw [eA]; rfl
 rw [h2,H4]
 unfold uk onE
 dsimp only
 rw [eA]
 rfl
theorem yy (s:IW) (e:List Ex) (l:List Ex):∀ k,eF (s.ev e) l k = (eF s l k).ev e
 | 0=>rfl
 | k + 1=>by
   cases he:l[k]? with
   | some x=>rw [jK he,jK he,yy s e l k,H5]
   | none=>rw [lj he,lj he,yy s e l k]
theorem wu (s:IW) (l:List Ex) (m:Nat):∀ k,k <= m -> eF s (l.take m) k = eF s l k
 | 0,_=>rfl
 | k + 1,h=>by
   have ih:=wu s l m k (by omega)
   have e:(l.take m)[k]? = l[k]?:=by rw [List.getElem?_take]; simp; omega
   cases he:l[k]? with
   | some x=>rw [jK he,jK (e.trans he),ih]
   | none=>rw [lj he,lj (e.trans he),ih]
def kL (L:List eR) (most:Int) (l:List Ex):List (Int × Int):=(eF (fp L most l) l l.length).aI
theorem E3 (L:List eR) (most:Int) (l:List Ex) (k:Nat) (hk:k <= l.length):∃ G,kL L most l = kL L most (l.take k) ++ G /\ (∀ f,f ∈ kL L most (l.take k) -> f.2 < k) /\ ∀ f,f ∈ G -> (k:Int) <= f.2:=by
 obtain ⟨G,h1,h2,h3⟩:=qR (gx L most l).inv l k (l.length - k)
 rw [show k + (l.length - k) = l.length by omega] at h1
 have e:kL L most (l.take k) = (eF (fp L most l) l k).aI:=by
  unfold kL
  have h4:fp L most (l.take k) = (fp L most l).ev (l.take k):=rfl
  rw [h4,yy]
  show (eF (fp L most l) (l.take k) _).aI = _
  rw [List.length_take,Nat.min_eq_left hk,wu _ _ _ _ (Nat.le_refl _)]
 refine ⟨G,by rw [e]; exact h1,fun f hf=>?_,fun f hf=>(h3 f hf).1⟩
 rw [e] at hf
 exact ((Df L most l l k).2 f hf).2.1
theorem Am (L:List eR) (most:Int) (l:List Ex):(kL L most l).Pairwise Xz /\ ∀ f,f ∈ kL L most l -> 0 <= f.2 /\ f.2 < l.length /\ 1 <= f.1 /\ f.1 <= 13:=Df L most l l l.length
theorem E4 {L:List eR} {most:Int} {l R:List Ex} (h:(bu L most l).2 = 0) (hs:∀ e,e ∈ R -> e ∈ l) (hl:R.length <= l.length):(bu L most R).2 = 0:=by
 obtain ⟨h1,h2,h3,h4,h5,h6,h7⟩:=im h
 unfold bu jG
 rw [if_neg (show ¬ (L.length = 0 \/ 16 < L.length) by omega),h3]
 rw [if_neg (by simp),if_neg (by omega),if_neg (by omega)]
 have e:R.findIdx? (dY L.length) = none:=by
  rw [List.findIdx?_eq_none_iff]
  exact fun x hx=>h7 x (hs x hx)
 rw [e]
def kM (L:List eR) (most:Int) (want:List Int) (l:List Ex):Bool:=(ct L most l).2 && decide ((ct L most l).1 = want)
def Dh (L:List eR) (most:Int) (l:List Ex):List Int:=(ct L most l).1
def E5 (L:List eR) (most:Int) (l:List Ex):List Ex:=j5 (kM L most (Dh L most l)) l.length l
def fE (L:List eR) (most:Int) (l:List Ex):List Ex × Int :=
 if (bu L most l).2 ≠ 0 then ([],(bu L most l).2)
 else match kL L most l with
  | []=>([],4)
  | f :: _=>if 60 <= f.2 then ([],3) else (E5 L most (l.take (f.2.toNat + 1)),0)
theorem BL {a B G:List (Int × Int)} {t:Int} (ha:a = B ++ G) (hB:∀ f,f ∈ B -> f.2 = t) (hG:∀ f,f ∈ G -> t < f.2):(a.takeWhile fun f=>f.2 == t) = B:=by
 subst ha
 rw [List.takeWhile_append_of_pos (by intro f hf; simp [hB f hf])]
 cases G with
 | nil=>simp
 | cons g G =>
   have:=hG g (by simp)
   rw [List.takeWhile_cons_of_neg (by simp; omega)]
   simp
theorem nm {L:List eR} {most:Int} {l:List Ex} {f:Int × Int} {t:List (Int × Int)} (h:kL L most l = f :: t):∃ k:Nat,f.2 = k /\ k < l.length /\ (kL L most (l.take (k + 1))) = (kL L most l).takeWhile (fun g=>g.2 == f.2) /\ (∀ g,g ∈ kL L most (l.take (k + 1)) -> g.2 = f.2) /\ f ∈ kL L most (l.take (k + 1)):=by
 obtain ⟨h1,h2⟩:=Am L most l
 have hf:=h2 f (by rw [h]; simp)
 obtain ⟨k,hk⟩:∃ k:Nat,f.2 = k:=⟨f.2.toNat,by omega⟩
 obtain ⟨G,g1,g2,g3⟩:=E3 L most l (k + 1) (by omega)
 have tg:∀ g,g ∈ kL L most l -> f.2 <= g.2:=fun g hg=>by
  rw [h] at hg h1
  rcases List.mem_cons.1 hg with rfl | hg
  ·exact Int.le_refl _
  ·rcases (List.pairwise_cons.1 h1).1 g hg with h3 | h3 <;> omega
 have hB:∀ g,g ∈ kL L most (l.take (k + 1)) -> g.2 = f.2:=fun g hg=>by
  have h3:=tg g (by rw [g1]; exact List.mem_append_left _ hg)
  have h4:=g2 g hg
  omega
 refine ⟨k,hk,by omega,(BL g1 hB fun g hg=>by have:=g3 g hg; omega).symm,hB,?_⟩
 have hm:f ∈ kL L most l:=by rw [h]; simp
 rw [g1] at hm
 rcases List.mem_append.1 hm with h5 | h5
 ·exact h5
 ·have:=g3 f h5; omega
def lN (k:Int) (call conn t kf n:Int) (yes:Bool):Ex:=⟨⟨k,0,t,call,conn,kf,n,yes⟩,0⟩
def yG:List eR:=[⟨1,1,10,100⟩]
def BM:List Ex:=[lN 1 1 0 0 0 0 true,lN 2 1 0 0 0 0 false,lN 5 1 0 1 0 0 false,lN 7 1 7 2 0 0 true,lN 9 1 7 3 0 20 false,lN 10 1 7 4 1 30 false,lN 11 1 7 4 0 0 true,lN 12 0 7 5 0 0 false]
def uB:List Ex:=BM ++ [lN 1 2 0 15 0 0 false,lN 2 2 0 15 0 0 false,lN 8 2 7 15 0 0 false]
def uC:List Ex:=BM ++ [lN 18 0 0 6 0 0 false,lN 19 0 0 6 0 0 false]
theorem ex5:fE yG 1 uC = ([lN 1 1 0 0 0 0 true,lN 18 0 0 6 0 0 false,lN 19 0 0 6 0 0 false],0):=by decide
def cu {α:Type} (l:List (Int × α)) (k:Int) (d:α):α:=match ki l k with | some j=>(l.getD j (0,d)).2 | none=>d
theorem uD {α:Type} (p:Int × α) (l:List (Int × α)) (k:Int):ki (p :: l) k = if p.1 = k then some 0 else (ki l k).map (· + 1):=by
 unfold ki
 rw [List.findIdx?_cons]
 by_cases h:p.1 = k <;> simp [h]
theorem fZ {α:Type} (p:Int × α) (l:List (Int × α)) (k:Int) (d:α):cu (p :: l) k d = if p.1 = k then p.2 else cu l k d:=by
 unfold cu
 rw [uD]
 by_cases h:p.1 = k
 ·rw [if_pos h,if_pos h]; rfl
 ·rw [if_neg h,if_neg h]
  cases ki l k <;> rfl
theorem qT {α:Type} (p:Int × α) (l:List (Int × α)) (k:Int) (x:α):jv (p :: l) k x = if p.1 = k then (k,x) :: l else p :: jv l k x:=by
 unfold jv
 rw [uD]
 by_cases h:p.1 = k
 ·rw [if_pos h,if_pos h]; rfl
 ·rw [if_neg h,if_neg h]
  cases ki l k <;> rfl
theorem qU {α:Type} (p:Int × α) (l:List (Int × α)) (k:Int):nX (p :: l) k = if p.1 = k then l else p :: nX l k:=by
 unfold nX
 rw [uD]
 by_cases h:p.1 = k
 ·rw [if_pos h,if_pos h]; rfl
 ·rw [if_neg h,if_neg h]
  cases ki l k <;> rfl
theorem uE {α:Type} (k:Int) (x d:α) (c:Int):∀ l:List (Int × α),cu (jv l k x) c d = if c = k then x else cu l c d
 | []=>by
   show cu [(k,x)] c d = _
   rw [fZ]
   by_cases h:c = k
   ·rw [if_pos h,if_pos h.symm]
   ·rw [if_neg h,if_neg (fun e=>h e.symm)]
 | p :: l=>by
   rw [qT]
   have ih:=uE k x d c l
   by_cases h:p.1 = k
   ·rw [if_pos h,fZ,fZ]
    by_cases h2:c = k
    ·rw [if_pos h2,if_pos h2.symm]
    ·rw [if_neg h2,if_neg (fun e=>h2 e.symm),if_neg (fun e=>h2 (e.symm.trans h))]
   ·rw [if_neg h,fZ,fZ,ih]
    by_cases h2:p.1 = c
    ·rw [if_pos h2,if_pos h2,if_neg (fun e=>h (h2.trans e))]
    ·rw [if_neg h2,if_neg h2]
theorem wx {α:Type} (c:Int) (d:α):∀ l:List (Int × α),c ∉ l.map (·.1) -> cu l c d = d
 | [],_=>rfl
 | p :: l,h=>by
   simp only [List.map_cons,List.mem_cons,not_or] at h
   rw [fZ,if_neg (fun e=>h.1 e.symm),wx c d l h.2]
theorem uF {α:Type} (k:Int) (d:α) (c:Int):∀ l:List (Int × α),(l.map (·.1)).Nodup -> cu (nX l k) c d = if c = k then d else cu l c d
 | [],_=>by
   show d = _
   split <;> rfl
 | p :: l,hn=>by
   simp only [List.map_cons,List.nodup_cons] at hn
   rw [qU]
   have ih:=uF k d c l hn.2
   by_cases h:p.1 = k
   ·rw [if_pos h,fZ]
    by_cases h2:c = k
    ·rw [if_pos h2]
     exact wx _ _ _ (by rw [h2,<- h]; exact hn.1)
    ·rw [if_neg h2,if_neg (fun e=>h2 (e.symm.trans h))]
   ·rw [if_neg h,fZ,fZ,ih]
    by_cases h2:p.1 = c
    ·rw [if_pos h2,if_pos h2,if_neg (fun e=>h (h2.trans e))]
    ·rw [if_neg h2,if_neg h2]
theorem uG {α:Type} (k:Int) (x:α) (c:Int):∀ l:List (Int × α),c ∈ (jv l k x).map (·.1) ↔ c = k \/ c ∈ l.map (·.1)
 | []=>by show c ∈ [k] ↔ _; simp
 | p :: l=>by
   rw [qT]
   have ih:=uG k x c l
   by_cases h:p.1 = k
   ·rw [if_pos h]
    simp only [List.map_cons,List.mem_cons,h]
    exact ⟨fun q=>q.elim .inl fun q=>.inr (.inr q),fun q=>q.elim .inl fun q=>q⟩
   ·rw [if_neg h]
    simp only [List.map_cons,List.mem_cons]
    rw [ih]
    constructor
    ·rintro (q | q | q)
     ·exact .inr (.inl q)
     ·exact .inl q
     ·exact .inr (.inr q)
    ·rintro (q | q | q)
     ·exact .inr (.inl q)
     ·exact .inl q
     ·exact .inr (.inr q)
theorem uH {α:Type} (k:Int) (c:Int):∀ l:List (Int × α),(l.map (·.1)).Nodup -> (c ∈ (nX l k).map (·.1) ↔ c ≠ k /\ c ∈ l.map (·.1))
 | [],_=>by show c ∈ [] ↔ _; simp
 | p :: l,hn=>by
   simp only [List.map_cons,List.nodup_cons] at hn
   rw [qU]
   have ih:=uH k c l hn.2
   by_cases h:p.1 = k
   ·rw [if_pos h]
    simp only [List.map_cons,List.mem_cons]
    constructor
    ·intro q
     exact ⟨fun e=>hn.1 (by rw [h,<- e]; exact q),.inr q⟩
    ·rintro ⟨q1,q2 | q2⟩
     ·exact absurd (q2.trans h) q1
     ·exact q2
   ·rw [if_neg h]
    simp only [List.map_cons,List.mem_cons]
    rw [ih]
    constructor
    ·rintro (q | q)
     ·exact ⟨fun e=>h (q.symm.trans e),.inl q⟩
     ·exact ⟨q.1,.inr q.2⟩
    ·rintro ⟨q1,q2 | q2⟩
     ·exact .inl q2
     ·exact .inr ⟨q1,q2⟩
theorem wy {α:Type} (k:Int) (x:α):∀ l:List (Int × α),(l.map (·.1)).Nodup -> ((jv l k x).map (·.1)).Nodup
 | [],_=>by show [k].Nodup; simp
 | p :: l,hn=>by
   simp only [List.map_cons,List.nodup_cons] at hn
   rw [qT]
   by_cases h:p.1 = k
   ·rw [if_pos h]
    simp only [List.map_cons,List.nodup_cons]
    exact ⟨by rw [<- h]; exact hn.1,hn.2⟩
   ·rw [if_neg h]
    simp only [List.map_cons,List.nodup_cons]
    refine ⟨fun q=>?_,wy k x l hn.2⟩
    rcases (uG k x p.1 l).1 q with q | q
    ·exact h q
    ·exact hn.1 q
theorem wz {α:Type} (k:Int):∀ l:List (Int × α),(l.map (·.1)).Nodup -> ((nX l k).map (·.1)).Nodup
 | [],_=>by show ([]:List Int).Nodup; simp
 | p :: l,hn=>by
   simp only [List.map_cons,List.nodup_cons] at hn
   rw [qU]
   by_cases h:p.1 = k
   ·rw [if_pos h]; exact hn.2
   ·rw [if_neg h]
    simp only [List.map_cons,List.nodup_cons]
    exact ⟨fun q=>hn.1 ((uH k p.1 l hn.2).1 q).2,wz k l hn.2⟩
def H6:IP:=⟨true,false,false⟩
def BN:IP:=⟨false,true,false⟩
def Rt:IP:=⟨false,false,true⟩
structure PL (bl:List (List Int × List Int)) (lz:List (Option Int)) (bz:List (Int × IP)) (wh:List (Int × Int)):Prop where
 nC:∀ (c:Int) (i:Nat) b,bl[i]? = some b -> (c ∈ b.1 ↔ (cu bz c dF).ax = true /\ cu wh c 0 = i)
 iu:∀ (c:Int) (i:Nat) b,bl[i]? = some b -> (c ∈ b.2 ↔ (cu bz c dF).waits = true /\ cu wh c 0 = i)
 Ru:∀ c,some c ∈ lz ↔ (cu bz c dF).bt = true
 one:∀ c,cu bz c dF = dF \/ cu bz c dF = H6 \/ cu bz c dF = BN \/ cu bz c dF = Rt
 Rv:∀ c,c ∈ bz.map (·.1) ↔ cu bz c dF ≠ dF
 rng:∀ c,(cu bz c dF).ax = true \/ (cu bz c dF).waits = true -> ∃ i:Nat,i < bl.length /\ cu wh c 0 = i
 uni:∀ (i j:Nat) c,lz[i]? = some (some c) -> lz[j]? = some (some c) -> i = j
 LO:∀ b,b ∈ bl -> b.1.Nodup
 key:(bz.map (·.1)).Nodup
theorem PL.to {bl:List (List Int × List Int)} {lz:List (Option Int)} {bz:List (Int × IP)} {wh:List (Int × Int)} (h:PL bl lz bz wh) {call:Int} {bk:Nat} (dm:bk < bl.length) {q:IP} (hq:q = dF \/ q = H6 \/ q = BN \/ q = Rt)
 {bl':List (List Int × List Int)} {lz':List (Option Int)} {bz':List (Int × IP)} {wh':List (Int × Int)}
 (hz:bz' = if q = dF then nX bz call else jv bz call q) (hw:wh' = if q = dF then wh else jv wh call bk)
 (hlen:bl'.length = bl.length)
 (hd:∀ (i:Nat) b b',bl[i]? = some b -> bl'[i]? = some b' -> (∀ c,c ≠ call -> (c ∈ b'.1 ↔ c ∈ b.1) /\ (c ∈ b'.2 ↔ c ∈ b.2)) /\ (call ∈ b'.1 ↔ q.ax = true /\ bk = i) /\ (call ∈ b'.2 ↔ q.waits = true /\ bk = i) /\ b'.1.Nodup)
 (hl:∀ c,c ≠ call -> (some c ∈ lz' ↔ some c ∈ lz)) (iS:some call ∈ lz' ↔ q.bt = true)
 (hu:∀ (i j:Nat) c,lz'[i]? = some (some c) -> lz'[j]? = some (some c) -> i = j):PL bl' lz' bz' wh':=by
 have gz:∀ c,cu bz' c dF = if c = call then q else cu bz c dF:=fun c=>by
  rw [hz]
  by_cases e:q = dF
  ·rw [if_pos e,uF _ _ _ _ h.key,e]
  ·rw [if_neg e,uE]
 have gw:∀ c,cu wh' c 0 = if q = dF then cu wh c 0 else if c = call then (bk:Int) else cu wh c 0:=fun c=>by
  rw [hw]
  by_cases e:q = dF
  ·rw [if_pos e,if_pos e]
  ·rw [if_neg e,if_neg e,uE]
 have gk:∀ c,c ∈ bz'.map (·.1) ↔ if c = call then q ≠ dF else c ∈ bz.map (·.1):=fun c=>by
  rw [hz]
  by_cases e:q = dF
  ·rw [if_pos e,uH _ _ _ h.key]
   by_cases e2:c = call
   ·rw [if_pos e2]; exact ⟨fun x=>absurd e2 x.1,fun x=>absurd e x⟩
   ·rw [if_neg e2]; exact ⟨fun x=>x.2,fun x=>⟨e2,x⟩⟩
  ·rw [if_neg e,uG]
   by_cases e2:c = call
   ·rw [if_pos e2]; exact ⟨fun _=>e,fun _=>.inl e2⟩
   ·rw [if_neg e2]; exact ⟨fun x=>x.elim (fun y=>absurd y e2) fun y=>y,.inr⟩
 have hold:∀ (i:Nat) b',bl'[i]? = some b' -> ∃ b,bl[i]? = some b:=fun i b' hb=>by
  have:=(List.getElem?_eq_some_iff.1 hb).1
  exact ⟨bl[i],List.getElem?_eq_getElem (by omega)⟩
 have qd0:q.ax = true \/ q.waits = true -> q ≠ dF:=by rintro (e | e) e2 <;> rw [e2] at e <;> cases e
 refine ⟨fun c i b' aR=>?_,fun c i b' aR=>?_,fun c=>?_,fun c=>?_,fun c=>?_,fun c hc=>?_,hu,fun b' aR=>?_,?_⟩
 ·obtain ⟨b,hb⟩:=hold i b' aR
  obtain ⟨h1,h2,h3,h4⟩:=hd i b b' hb aR
  rw [gz,gw]
  by_cases e:c = call
  ·rw [if_pos e,e,h2]
   constructor
   ·rintro ⟨a,a2⟩
    exact ⟨a,by rw [if_neg (qd0 (.inl a)),if_pos rfl,a2]⟩
   ·rintro ⟨a,a2⟩
    rw [if_neg (qd0 (.inl a)),if_pos rfl] at a2
    exact ⟨a,by omega⟩
  ·rw [if_neg e,if_neg e,(h1 c e).1,h.nC c i b hb]
   split <;> exact Iff.rfl
 ·obtain ⟨b,hb⟩:=hold i b' aR
  obtain ⟨h1,h2,h3,h4⟩:=hd i b b' hb aR
  rw [gz,gw]
  by_cases e:c = call
  ·rw [if_pos e,e,h3]
   constructor
   ·rintro ⟨a,a2⟩
    exact ⟨a,by rw [if_neg (qd0 (.inr a)),if_pos rfl,a2]⟩
   ·rintro ⟨a,a2⟩
    rw [if_neg (qd0 (.inr a)),if_pos rfl] at a2
    exact ⟨a,by omega⟩
  ·rw [if_neg e,if_neg e,(h1 c e).2,h.iu c i b hb]
   split <;> exact Iff.rfl
 ·rw [gz]
  by_cases e:c = call
  ·rw [if_pos e,e,iS]
  ·rw [if_neg e,hl c e,h.Ru]
 ·rw [gz]
  by_cases e:c = call
  ·rw [if_pos e]; exact hq
  ·rw [if_neg e]; exact h.one c
 ·rw [gz,gk]
  by_cases e:c = call
  ·rw [if_pos e,if_pos e]
  ·rw [if_neg e,if_neg e]; exact h.Rv c
 ·rw [gz] at hc
  rw [gw,hlen]
  by_cases e:c = call
  ·rw [if_pos e] at hc
   rw [if_neg (qd0 hc),if_pos e]
   exact ⟨bk,dm,rfl⟩
  ·rw [if_neg e] at hc
   rw [if_neg e]
   split <;> exact h.rng c hc
 ·obtain ⟨i,hi,rfl⟩:=List.getElem_of_mem aR
  have h5:=List.getElem?_eq_getElem hi
  obtain ⟨b,hb⟩:=hold i _ h5
  exact (hd i b _ hb h5).2.2.2
 ·rw [hz]
  split
  ·exact wz _ _ h.key
  ·exact wy _ _ _ h.key
def gm (aq:List RC) (i:Nat):Nat:=(aq.filter fun c=>c.bk == (i:Int) && c.st != 5).length
def fQ (aq:List RC) (i:Nat) (b:RB):IB:=⟨b.down,b.gV,b.aM,b.ax.length,gm aq i,b.waits⟩
def jY (c:RC):IC:=⟨c.num,c.bk,c.bt,c.born,if c.st = 5 then c.fin else -1,c.cj,c.read,c.st,c.call,c.since⟩
def oa (r:RR):Int × IR:=(r.call,⟨r.idem,r.ended,r.aO,if r.aO = 0 then -1 else r.at_,r.cj⟩)
def eY (c:RC):Option Int:=if c.st = 1 then some c.call else none
def qs (b:RB):List Int × List Int:=(b.ax,b.waits)
structure cp (N:Nat) (w:RW) (s:IW):Prop where
 aN:s.aN = w.aN
 most:s.most = w.most
 now:s.now = w.now
 stop:s.stop = w.stop
 ev:s.at_ = w.ev
 aI:s.aI = w.aI
 len:s.ai.length = w.ai.length
 bk:∀ (i:Nat) b,w.ai[i]? = some b -> s.ai[i]? = some (fQ w.aq i b)
 aq:s.aq = w.aq.map jY
 aE:s.aE = w.aE.map oa
 pk:∀ r,r ∈ w.aE -> 0 <= r.aO /\ r.aO <= N
 vn:∀ b,b ∈ w.ai -> 0 <= b.aM
 cb:∀ c,c ∈ w.aq -> ∃ i:Nat,i < w.ai.length /\ c.bk = i
 oC:(w.aq.map (·.num)).Nodup
 pl:PL (w.ai.map qs) (w.aq.map eY) s.busy s.nF
theorem cp.mono {N M:Nat} {w:RW} {s:IW} (h:cp N w s) (hm:N <= M):cp M w s :=
 ⟨h.aN,h.most,h.now,h.stop,h.ev,h.aI,h.len,h.bk,h.aq,h.aE,fun r hr=>by have:=h.pk r hr; omega,h.vn,h.cb,h.oC,h.pl⟩
theorem cp.fault {N:Nat} {w:RW} {s:IW} (h:cp N w s) (k:Int):cp N (w.fault k) (s.fault k) :=
 ⟨h.aN,h.most,h.now,h.stop,h.ev,by unfold RW.fault IW.fault; dsimp only; rw [h.aI,h.ev],h.len,h.bk,h.aq,h.aE,h.pk,h.vn,h.cb,h.oC,h.pl⟩
theorem cp.aj {N:Nat} {w:RW} {s:IW} (h:cp N w s) (c:Bool) (k:Int):cp N (w.aj c k) (s.aj c k):=by
 cases c
 ·exact h
 ·exact h.fault k
theorem cp.find {N:Nat} {w:RW} {s:IW} (h:cp N w s) (c:Int):ki s.aE c = dy w c:=by
 unfold ki dy
 rw [h.aE,List.findIdx?_map]
 rfl
theorem nL {w:RW} {c:Int} {i:Nat} (h:dy w c = some i):∃ hi:i < w.aE.length,w.aE[i].call = c:=by
 unfold dy at h
 rw [List.findIdx?_eq_some_iff_getElem] at h
 obtain ⟨hj,h1,_⟩:=h
 exact ⟨hj,by simpa using h1⟩
theorem cp.rq {N:Nat} {w:RW} {s:IW} (h:cp N w s) {i:Nat} (hi:i < w.aE.length):s.aE.getD i (0,o7) = oa w.aE[i] /\ w.aE.getD i zU = w.aE[i]:=by
 rw [h.aE]
 simp [hi]
theorem cp.cn {N:Nat} {w:RW} {s:IW} (h:cp N w s) {i:Nat} (hi:i < w.aq.length):s.aq.getD i kJ = jY w.aq[i] /\ w.aq.getD i yF = w.aq[i]:=by
 rw [h.aq]
 simp [hi]
theorem cp.sh {N:Nat} {w:RW} {s:IW} (h:cp N w s) {i:Nat} (hi:i < w.ai.length):s.ai.getD i gp = fQ w.aq i w.ai[i] /\ w.ai.getD i gD = w.ai[i]:=by
 have h1:=h.bk i w.ai[i] (List.getElem?_eq_getElem hi)
 rw [List.getD_eq_getElem?_getD,h1]
 simp [hi]
theorem cp.there {N:Nat} {w:RW} {s:IW} (h:cp N w s) (x:Ev):gi s x = eX w x.conn x.bk:=by
 have e1:(s.aq.map (·.num)).findIdx? (· == x.conn) = w.aq.findIdx? (fun c=>c.num == x.conn):=by
  rw [h.aq,List.map_map,List.findIdx?_map]; rfl
 unfold gi eX
 rw [e1]
 cases hf:w.aq.findIdx? (fun c=>c.num == x.conn) with
 | none =>
   rw [List.findIdx?_eq_none_iff] at hf
   dsimp only
   symm
   rw [List.findIdx?_eq_none_iff]
   intro c hc
   rw [hf c hc]; rfl
 | some i =>
   rw [List.findIdx?_eq_some_iff_getElem] at hf
   obtain ⟨hi,h1,h2⟩:=hf
   dsimp only
   rw [(h.cn hi).1]
   show (if w.aq[i].st = 5 \/ w.aq[i].bk ≠ (x.bk:Int) then none else some i) = _
   split
   ·rename_i h3
    symm
    rw [List.findIdx?_eq_none_iff]
    intro c hc
    obtain ⟨j,hj,rfl⟩:=List.getElem_of_mem hc
    by_cases e:w.aq[j].num = x.conn
    ·have IA:i = j:=by
      have h4:w.aq[i].num = x.conn:=by simpa using h1
      have:=(List.nodup_iff_pairwise_ne.1 h.oC)
      rw [List.pairwise_iff_getElem] at this
      rcases Nat.lt_trichotomy i j with h5 | h5 | h5
      ·exact (this i j (by simpa using hi) (by simpa using hj) h5 (by rw [List.getElem_map,List.getElem_map,h4,e])).elim
      ·exact h5
      ·exact (this j i (by simpa using hj) (by simpa using hi) h5 (by rw [List.getElem_map,List.getElem_map,h4,e])).elim
     subst IA
     rcases h3 with h3 | h3
     ·simp [h3]
     ·simp [h3]
    ·simp [e]
   ·rename_i h3
    symm
    rw [List.findIdx?_eq_some_iff_getElem]
    have h4:w.aq[i].num = x.conn:=by simpa using h1
    have h5:¬ w.aq[i].st = 5:=fun e=>h3 (.inl e)
    have h6:w.aq[i].bk = (x.bk:Int):=Classical.byContradiction fun e=>h3 (.inr e)
    refine ⟨hi,by simp [h4,h5,h6],fun j hj=>?_⟩
    have:=h2 j hj
    simp at this
    simp [this]
theorem lk {w:RW} {n:Int} {b:Int} {i:Nat} (h:eX w n b = some i):∃ hi:i < w.aq.length,w.aq[i].num = n /\ w.aq[i].bk = b /\ w.aq[i].st ≠ 5:=by
 unfold eX at h
 rw [List.findIdx?_eq_some_iff_getElem] at h
 obtain ⟨hj,h1,_⟩:=h
 simp at h1
 exact ⟨hj,h1.1.1,h1.1.2,h1.2⟩
theorem cp.own {N:Nat} {w:RW} {s:IW} (h:cp N w s) (x:Ev):lG s x = kI w x:=by
 unfold lG kI
 rw [h.there]
 cases ht:eX w x.conn x.bk with
 | none=>rfl
 | some i =>
   obtain ⟨hi,_⟩:=lk ht
   dsimp only
   rw [(h.cn hi).1,List.getElem?_eq_getElem hi]
   rfl
theorem yz {w:RW} {x:Ev} {i:Nat} (h:kI w x = some i):∃ hi:i < w.aq.length,w.aq[i].num = x.conn /\ w.aq[i].bk = x.bk /\ w.aq[i].st = 1 /\ w.aq[i].call = x.call:=by
 unfold kI at h
 split at h
 ·rename_i j hj
  obtain ⟨hi,h1,h2,h3⟩:=lk hj
  rw [List.getElem?_eq_getElem hi] at h
  dsimp only at h
  split at h
  ·rename_i h4
   injection h with h
   subst h
   exact ⟨hi,h1,h2,h4.1,h4.2⟩
  ·cases h
 ·cases h
theorem cp.dw {N:Nat} {w:RW} {s:IW} (_:cp N w s) {i:Nat} (hi:i < w.ai.length):(w.ai.map qs)[i]? = some (w.ai[i].ax,w.ai[i].waits):=by
 rw [List.getElem?_map,List.getElem?_eq_getElem hi]; rfl
theorem cp.busy {N:Nat} {w:RW} {s:IW} (h:cp N w s) (c:Int):mV w c = (ki s.busy c).isSome:=by
 rw [Bool.eq_iff_iff,qo,h.pl.Rv]
 unfold mV
 simp only [Bool.or_eq_true,List.any_eq_true,decide_eq_true_eq,Bool.and_eq_true,beq_iff_eq]
 constructor
 ·rintro (⟨b,hb,h1⟩ | ⟨d,hd,h1,h2⟩)
  ·obtain ⟨i,hi,rfl⟩:=List.getElem_of_mem hb
   rcases h1 with h1 | h1
   ·intro e; have:=((h.pl.nC c i _ (h.dw hi)).1 h1).1; rw [e] at this; cases this
   ·intro e; have:=((h.pl.iu c i _ (h.dw hi)).1 h1).1; rw [e] at this; cases this
  ·intro e
   have:=(h.pl.Ru c).1 (List.mem_map.2 ⟨d,hd,by unfold eY; rw [if_pos h1,h2]⟩)
   rw [e] at this; cases this
 ·intro e
  have hr:=h.pl.rng c
  rcases h.pl.one c with h1 | h1 | h1 | h1
  ·exact absurd h1 e
  ·obtain ⟨i,hi,h2⟩:=hr (.inl (by rw [h1]; rfl))
   rw [List.length_map] at hi
   exact .inl ⟨w.ai[i],List.getElem_mem hi,.inl ((h.pl.nC c i _ (h.dw hi)).2 ⟨by rw [h1]; rfl,h2⟩)⟩
  ·obtain ⟨i,hi,h2⟩:=hr (.inr (by rw [h1]; rfl))
   rw [List.length_map] at hi
   exact .inl ⟨w.ai[i],List.getElem_mem hi,.inr ((h.pl.iu c i _ (h.dw hi)).2 ⟨by rw [h1]; rfl,h2⟩)⟩
  ·obtain ⟨d,hd,h2⟩:=List.mem_map.1 ((h.pl.Ru c).2 (by rw [h1]; rfl))
   unfold eY at h2
   split at h2
   ·rename_i h3
    injection h2 with h2
    exact .inr ⟨d,hd,h3,h2⟩
   ·cases h2
theorem cp.ready {N:Nat} {w:RW} {s:IW} (h:cp N w s) (c:Int):fM s c = if dA w c then dy w c else none:=by
 unfold fM dA
 rw [h.find,h.busy]
 cases hf:dy w c with
 | none=>rfl
 | some i =>
   obtain ⟨hi,_⟩:=nL hf
   dsimp only
   simp only [(h.rq hi).1,List.getElem?_eq_getElem hi]
   show (if (w.aE[i].ended || (ki s.busy c).isSome) = true then none else some i) = _
   cases w.aE[i].ended <;> cases (ki s.busy c).isSome <;> rfl
theorem cp.free {N:Nat} {w:RW} {s:IW} (h:cp N w s) {c:Int} (hr:dA w c = true):cu s.busy c dF = dF:=by
 have h1:mV w c = false:=by
  unfold dA at hr
  split at hr
  ·simp only [Bool.and_eq_true] at hr; simpa using hr.2
  ·cases hr
 rw [h.busy] at h1
 have h2:¬ (c ∈ s.busy.map (·.1)):=fun h3=>by rw [<- qo,h1] at h3; cases h3
 rw [h.pl.Rv] at h2
 exact Classical.byContradiction h2
theorem nq {w:RW} {c:Int} (hr:dA w c = true):∃ i,dy w c = some i:=by
 unfold dA at hr
 split at hr
 ·exact ⟨_,‹_›⟩
 ·cases hr
theorem cp.aeb {N:Nat} {w:RW} {s:IW} (h:cp N w s) (x:Ev):(match fM s x.call with | some i=>decide ((s.aE.getD i (0,o7)).2.at_ = x.bk) | none=>false) = ju w x.call x.bk:=by
 rw [h.ready]
 unfold ju
 cases hr:dA w x.call
 ·rfl
 ·obtain ⟨i,hf⟩:=nq hr
  obtain ⟨hi,_⟩:=nL hf
  simp only [if_true,hf,Option.bind_some,List.getElem?_eq_getElem hi,(h.rq hi).1,Bool.true_and]
  show decide ((if w.aE[i].aO = 0 then (-1:Int) else w.aE[i].at_) = x.bk) = _
  have:=h.pk _ (List.getElem_mem hi)
  by_cases e:w.aE[i].aO = 0
  ·rw [if_pos e,e]
   simp
  ·rw [if_neg e]
   have:0 < w.aE[i].aO:=by omega
   simp [this]
theorem cp.waits {N:Nat} {w:RW} {s:IW} (h:cp N w s) (x:Ev) (hx:x.bk < w.ai.length):gQ s x = decide (x.call ∈ w.ai[x.bk].waits):=by
 rw [Bool.eq_iff_iff,decide_eq_true_eq,h.pl.iu x.call x.bk _ (h.dw hx)]
 unfold gQ
 rw [Bool.and_eq_true,decide_eq_true_eq]
 exact Iff.rfl
theorem cp.may {N:Nat} {w:RW} {s:IW} (h:cp N w s) (x:Ev) (hx:x.bk < w.ai.length):oY s x = (decide (x.call ∈ w.ai[x.bk].waits) || ju w x.call x.bk):=by
 unfold oY
 rw [h.waits x hx]
 exact congrArg (_ || ·) (h.aeb x)
theorem cp.first {N:Nat} {w:RW} {s:IW} (h:cp N w s) (x:Ev) (hx:x.bk < w.ai.length):gj s x = fx w x:=by
 unfold gj fx
 rw [List.getElem?_eq_getElem hx,h.bk x.bk _ (List.getElem?_eq_getElem hx)]
 rfl
theorem gR (s:IW) (x:Ev) (q:IP):aW s x q = { s with busy:=if q = dF then nX s.busy x.call else jv s.busy x.call q,nF:=if q = dF then s.nF else jv s.nF x.call x.bk }:=by
 unfold aW
 split <;> rfl
theorem gX {l:List Int} {n c:Int}:c ∈ aZ l n ↔ c ∈ l /\ c ≠ n:=by
 unfold aZ
 rw [List.mem_filter]
 simp
theorem BO {l:List Int} (n:Int) (h:l.Nodup):(aZ l n).Nodup:=by
 unfold aZ
 exact (List.filter_sublist).nodup h
theorem H7 {l:List Int} {n:Int} (h:l.Nodup) (hm:n ∈ l):((aZ l n).length:Int) = l.length - 1:=by
 induction l with
 | nil=>simp at hm
 | cons a l ih =>
   rw [List.nodup_cons] at h
   unfold aZ
   by_cases e:a = n
   ·rw [List.filter_cons_of_neg (by simp [e])]
    have:l.filter (· != n) = l:=by
     rw [List.filter_eq_self]
     intro b hb
     simp
     rintro rfl
     exact h.1 (by rw [e]; exact hb)
    rw [this,List.length_cons]; omega
   ·rw [List.filter_cons_of_pos (by simp [e])]
    have h2:=ih h.2 (by rcases List.mem_cons.1 hm with h | h; exact absurd h.symm e; exact h)
    unfold aZ at h2
    rw [List.length_cons,List.length_cons]; omega
theorem y1 {N:Nat} {w:RW} {s:IW} (h:cp N w s) {k:Nat} (hk:k < w.ai.length) (cns':List RC) (hc:∀ i,i ≠ k -> gm cns' i = gm w.aq i) (b':RB) {ib':IB} (he:ib' = fQ cns' k b') :
 ∀ (i:Nat) b,(w.ai.set k b')[i]? = some b -> (s.ai.set k ib')[i]? = some (fQ cns' i b):=by
 intro i b hb
 rw [List.getElem?_set] at hb ⊢
 by_cases e:k = i
 ·subst e
  rw [if_pos rfl,if_pos hk] at hb
  injection hb with hb
  subst hb
  rw [if_pos rfl,if_pos (by rw [h.len]; exact hk),he]
 ·rw [if_neg e] at hb ⊢
  rw [h.bk i b hb]
  unfold fQ
  rw [hc i (fun e2=>e e2.symm)]
theorem Ps {N:Nat} {w:RW} {s:IW} (h:cp N w s) (cns':List RC) (hc:∀ i,gm cns' i = gm w.aq i):∀ (i:Nat) b,w.ai[i]? = some b -> s.ai[i]? = some (fQ cns' i b):=by
 intro i b hb
 rw [h.bk i b hb]
 unfold fQ
 rw [hc i]
theorem Di {N:Nat} {w:RW} {s:IW} (h:cp N w s) {k:Nat} {b':RB} (hb:0 <= b'.aM):∀ b,b ∈ w.ai.set k b' -> 0 <= b.aM:=by
 intro b hm
 rcases List.mem_or_eq_of_mem_set hm with h1 | h1
 ·exact h.vn b h1
 ·rw [h1]; exact hb
theorem Pt {w:RW} {k:Nat} {b':RB} (hk:k < w.ai.length) (hb:qs b' = qs w.ai[k]):(w.ai.set k b').map qs = w.ai.map qs:=by
 rw [List.map_set,hb]
 apply List.ext_getElem?
 intro i
 rw [List.getElem?_set]
 split
 ·rename_i e
  subst e
  simp [hk]
 ·rfl
theorem cp.aQ {N:Nat} {w:RW} {s:IW} (h:cp N w s) {k:Nat} (hk:k < w.ai.length) (b':RB) (hb:qs b' = qs w.ai[k]) (hp:0 <= b'.aM) {ib':IB} (he:ib' = fQ w.aq k b'):cp N (w.aQ k b') (s.aQ k ib') :=
 ⟨h.aN,h.most,h.now,h.stop,h.ev,h.aI,by unfold IW.aQ RW.aQ; dsimp only; rw [List.length_set,List.length_set,h.len],y1 h hk w.aq (fun _ _=>rfl) b' he,h.aq,h.aE,h.pk,Di h hp,fun c hc=>by unfold RW.aQ; dsimp only; rw [List.length_set]; exact h.cb c hc,h.oC,by unfold IW.aQ RW.aQ; dsimp only; rw [Pt hk hb]; exact h.pl⟩
theorem y2 {aq:List RC} {i:Nat} (hi:i < aq.length) (c':RC) (j:Nat):(gm (aq.set i c') j:Int) = gm aq j - (if aq[i].bk = (j:Int) /\ aq[i].st ≠ 5 then 1 else 0) + (if c'.bk = (j:Int) /\ c'.st ≠ 5 then 1 else 0):=by
 unfold gm
 rw [<- List.countP_eq_length_filter,<- List.countP_eq_length_filter,List.countP_set hi]
 have h1:(if (aq[i].bk == (j:Int) && aq[i].st != 5) = true then 1 else 0) <= List.countP (fun c=>c.bk == (j:Int) && c.st != 5) aq:=by
  split
  ·rename_i h
   exact List.countP_pos_iff.2 ⟨aq[i],List.getElem_mem hi,h⟩
  ·exact Nat.zero_le _
 have e1:((aq[i].bk == (j:Int) && aq[i].st != 5) = true) ↔ (aq[i].bk = (j:Int) /\ aq[i].st ≠ 5):=by simp
 have e2:((c'.bk == (j:Int) && c'.st != 5) = true) ↔ (c'.bk = (j:Int) /\ c'.st ≠ 5):=by simp
 simp only [e1,e2] at h1 ⊢
 by_cases a:aq[i].bk = (j:Int) /\ aq[i].st ≠ 5 <;> by_cases b:c'.bk = (j:Int) /\ c'.st ≠ 5
 ·rw [if_pos a] at h1; rw [if_pos a,if_pos b,if_pos a,if_pos b]; omega
 ·rw [if_pos a] at h1; rw [if_pos a,if_neg b,if_pos a,if_neg b]; omega
 ·rw [if_neg a,if_pos b,if_neg a,if_pos b]; omega
 ·rw [if_neg a,if_neg b,if_neg a,if_neg b]; omega
theorem nM {aq:List RC} {i:Nat} (hi:i < aq.length) {c':RC} (hn:c'.num = aq[i].num):(aq.set i c').map (·.num) = aq.map (·.num):=by
 rw [List.map_set,hn]
 apply List.ext_getElem?
 intro j
 rw [List.getElem?_set]
 split
 ·rename_i e
  subst e
  simp [hi]
 ·rfl
theorem H8 {aq:List RC} {i:Nat} (hi:i < aq.length) {c':RC} (hn:eY c' = eY aq[i]):(aq.set i c').map eY = aq.map eY:=by
 rw [List.map_set,hn]
 apply List.ext_getElem?
 intro j
 rw [List.getElem?_set]
 split
 ·rename_i e
  subst e
  simp [hi]
 ·rfl
theorem cp.bh {N:Nat} {w:RW} {s:IW} (h:cp N w s) {i:Nat} (hi:i < w.aq.length) (c':RC) (h1:c'.num = w.aq[i].num) (h2:c'.bk = w.aq[i].bk) (h3:eY c' = eY w.aq[i]) (h4:w.aq[i].st ≠ 5) (h5:c'.st ≠ 5) {ic':IC} (he:ic' = jY c'):cp N (w.bh i c') (s.bh i ic'):=by
 refine ⟨h.aN,h.most,h.now,h.stop,h.ev,h.aI,h.len,Ps h _ fun j=>?_,?_,h.aE,h.pk,h.vn,fun c hc=>?_,?_,?_⟩
 ·have:=y2 hi c' j
  rw [h2] at this
  simp only [ne_eq,h4,h5,not_false_eq_true,and_true] at this
  show gm (w.aq.set i c') j = _
  omega
 ·show s.aq.set i ic' = (w.aq.set i c').map jY
  rw [h.aq,he,List.map_set]
 ·rcases List.mem_or_eq_of_mem_set hc with h6 | h6
  ·exact h.cb c h6
  ·rw [h6,h2]; exact h.cb _ (List.getElem_mem hi)
 ·show ((w.aq.set i c').map (·.num)).Nodup
  rw [nM hi h1]; exact h.oC
 ·show PL (w.ai.map qs) ((w.aq.set i c').map eY) s.busy s.nF
  rw [H8 hi h3]; exact h.pl
theorem cp.dU {N:Nat} {w:RW} {s:IW} (h:cp N w s) {i:Nat} (hi:i < w.aE.length) (r':RR) (h1:r'.call = w.aE[i].call) (h2:0 <= r'.aO /\ r'.aO <= (N:Int) + 1) {ir':IR} (he:ir' = (oa r').2):cp (N + 1) (w.dU i r') (s.dU i ir'):=by
 refine ⟨h.aN,h.most,h.now,h.stop,h.ev,h.aI,h.len,h.bk,h.aq,?_,fun r hr=>?_,h.vn,h.cb,h.oC,h.pl⟩
 ·show s.aE.set i ((s.aE.getD i (0,o7)).1,ir') = (w.aE.set i r').map oa
  rw [(h.rq hi).1,h.aE,he,List.map_set]
  show _ = (w.aE.map oa).set i (r'.call,(oa r').2)
  rw [h1]; rfl
 ·rcases List.mem_or_eq_of_mem_set hr with h3 | h3
  ·have:=h.pk r h3; omega
  ·rw [h3]; omega
def SS (N:Nat) (z:RW × Bool) (z':IW × Bool):Prop:=z'.2 = z.2 /\ cp (N + 1) z.1 z'.1
theorem cp.ss {N:Nat} {w:RW} {s:IW} (h:cp N w s) (b:Bool):SS N (w,b) (s,b):=⟨rfl,h.mono (Nat.le_succ _)⟩
theorem Pu (w:RW) (c:Bool) (k:Int):(w.aj c k).ai = w.ai /\ (w.aj c k).aq = w.aq /\ (w.aj c k).aE = w.aE /\ (w.aj c k).aN = w.aN /\ (w.aj c k).now = w.now /\ (w.aj c k).most = w.most /\ (w.aj c k).stop = w.stop:=by
 cases c <;> exact ⟨rfl,rfl,rfl,rfl,rfl,rfl,rfl⟩
theorem cp.lb {N:Nat} {w:RW} {s:IW} (h:cp N w s) {k:Nat} (hk:k < w.ai.length) (b':RB) (hb:qs b' = qs (w.ai.getD k gD)) (hp:0 <= b'.aM) {ib':IB} (he:ib' = fQ w.aq k b'):cp N (w.aQ k b') (s.aQ k ib') :=
 h.aQ hk b' (by rw [(h.sh hk).2] at hb; exact hb) hp he
theorem cp.vX {N:Nat} {w:RW} {s:IW} (h:cp N w s) {i:Nat} (hi:i < w.aE.length) (r':RR) (h1:r'.call = (w.aE.getD i zU).call) (h2:0 <= r'.aO /\ r'.aO <= (N:Int) + 1) {ir':IR} (he:ir' = (oa r').2):cp (N + 1) (w.dU i r') (s.dU i ir') :=
 h.dU hi r' (by rw [(h.rq hi).2] at h1; exact h1) h2 he
theorem cp.LP {N:Nat} {w:RW} {s:IW} (h:cp N w s) {i:Nat} (hi:i < w.aq.length) (c':RC) (h0:c'.num = (w.aq.getD i yF).num /\ c'.bk = (w.aq.getD i yF).bk /\ eY c' = eY (w.aq.getD i yF)) (h4:(w.aq.getD i yF).st ≠ 5) (h5:c'.st ≠ 5) {ic':IC} (he:ic' = jY c'):cp N (w.bh i c') (s.bh i ic'):=by
 rw [(h.cn hi).2] at h0 h4
 exact h.bh hi c' h0.1 h0.2.1 h0.2.2 h4 h5 he
theorem Kq {N:Nat} {w:RW} {s:IW} (h:cp N w s) (x:Ev):SS N (if (dy w x.call).isSome || w.stop then (w,false) else ({ w with aE:=w.aE ++ [⟨x.call,x.yes,0,0,0,false⟩] },true)) (pa s x):=by
 unfold pa
 rw [h.find,h.stop]
 split
 ·exact h.ss false
 ·refine ⟨rfl,⟨h.aN,h.most,h.now,rfl,h.ev,h.aI,h.len,h.bk,h.aq,?_,fun r hr=>?_,h.vn,h.cb,h.oC,h.pl⟩⟩
  ·show s.aE ++ _ = (w.aE ++ _).map oa
   rw [h.aE,List.map_append]; rfl
  ·rcases List.mem_append.1 hr with h1 | h1
   ·have:=h.pk r h1; omega
   ·rw [List.mem_singleton.1 h1]
    exact ⟨Int.le_refl _,by show (0:Int) <= _; omega⟩
theorem Pv {N:Nat} {w:RW} {s:IW} (h:cp N w s) (x:Ev) (hx:x.bk < w.ai.length):SS N (w.aQ x.bk { w.ai.getD x.bk gD with down:=!x.yes },true) (zO s x):=by
 unfold zO
 refine ⟨rfl,(h.lb hx { w.ai.getD x.bk gD with down:=!x.yes } rfl ?_ ?_).mono (Nat.le_succ _)⟩
 ·show 0 <= (w.ai.getD x.bk gD).aM
  rw [(h.sh hx).2]; exact h.vn _ (List.getElem_mem hx)
 ·rw [(h.sh hx).1,(h.sh hx).2]; rfl
theorem Pw {N:Nat} {w:RW} {s:IW} (h:cp N w s) (x:Ev) (hx:x.bk < w.ai.length):SS N (w.aQ x.bk { w.ai.getD x.bk gD with gV:=x.n,aM:=0 },true) (zP s x):=by
 unfold zP
 refine ⟨rfl,(h.lb hx { w.ai.getD x.bk gD with gV:=x.n,aM:=0 } rfl (Int.le_refl _) ?_).mono (Nat.le_succ _)⟩
 rw [(h.sh hx).1,(h.sh hx).2]; rfl
theorem H9 {N:Nat} {w:RW} {s:IW} (h:cp N w s) (x:Ev) (hx:x.bk < w.ai.length):SS N (jF w x) (ky s x):=by
 unfold ky jF
 rw [h.find]
 cases hf:dy w x.call with
 | none=>exact h.ss false
 | some i =>
   obtain ⟨hi,_⟩:=nL hf
   dsimp only
   rw [(h.rq hi).1,(h.rq hi).2,(h.sh hx).1]
   have hr:((oa w.aE[i]).2.at_ ≠ (x.bk:Int)) ↔ (w.aE[i].aO = 0 \/ w.aE[i].at_ ≠ x.bk):=by
    show ((if w.aE[i].aO = 0 then (-1:Int) else w.aE[i].at_) ≠ x.bk) ↔ _
    by_cases e:w.aE[i].aO = 0
    ·rw [if_pos e]; exact ⟨fun _=>.inl e,fun _=>by omega⟩
    ·rw [if_neg e]; exact ⟨.inr,fun q=>q.elim (fun q=>absurd q e) fun q=>q⟩
   by_cases c1:w.aE[i].aO = 0 \/ w.aE[i].at_ ≠ x.bk
   ·rw [if_pos c1,if_pos (hr.2 c1)]; exact h.ss false
   ·rw [if_neg c1,if_neg (fun q=>c1 (hr.1 q)),(h.sh hx).2]
    show SS N (if w.ai[x.bk].aM = x.call then _ else _) (if w.ai[x.bk].aM = x.call then _ else _)
    by_cases c2:w.ai[x.bk].aM = x.call
    ·rw [if_pos c2,if_pos c2]
     exact ⟨rfl,(h.aQ hx { w.ai[x.bk] with aM:=0,gV:=if x.yes then 0 else 1 } rfl (Int.le_refl _) rfl).mono (Nat.le_succ _)⟩
    ·rw [if_neg c2,if_neg c2]; exact h.ss true
theorem Px {N:Nat} {w:RW} {s:IW} (h:cp N w s) (hN:N <= 100000) (x:Ev) (hx:x.bk < w.ai.length) (hc:1 <= x.call):SS N (rN w x) (rK s x):=by
 unfold rK rN
 rw [h.ready]
 cases hr:dA w x.call
 ·exact h.ss false
 ·obtain ⟨i,hf⟩:=nq hr
  obtain ⟨hi,_⟩:=nL hf
  have hpk:=h.pk _ (List.getElem_mem hi)
  have af5:=h.vn _ (List.getElem_mem hx)
  simp only [if_true,hf,Option.getD_some]
  rw [(h.rq hi).1,(h.rq hi).2,(h.sh hx).1,(h.sh hx).2]
  have hw:cH (w.aE[i].aO + 1) = w.aE[i].aO + 1:=gN (by omega)
  have h1:=h.aj (w.ai[x.bk].down || decide (w.ai[x.bk].gV = 1)) 7
  obtain ⟨f1,f2,f3,_⟩:=Pu w (w.ai[x.bk].down || decide (w.ai[x.bk].gV = 1)) 7
  refine ⟨rfl,?_⟩
  have e8:(decide (0 < (fQ w.aq x.bk w.ai[x.bk]).aM) && decide ((fQ w.aq x.bk w.ai[x.bk]).aM ≠ x.call)) = (decide (w.ai[x.bk].aM ≠ 0) && decide (w.ai[x.bk].aM ≠ x.call)):=by
   show (decide (0 < w.ai[x.bk].aM) && _) = _
   congr 1
   rw [Bool.eq_iff_iff,decide_eq_true_eq,decide_eq_true_eq]; omega
  have h2:cp N (if w.ai[x.bk].gV = 2 then ((w.aj (w.ai[x.bk].down || decide (w.ai[x.bk].gV = 1)) 7).aj (decide (w.ai[x.bk].aM ≠ 0) && decide (w.ai[x.bk].aM ≠ x.call)) 8).aQ x.bk { w.ai[x.bk] with aM:=x.call } else w.aj (w.ai[x.bk].down || decide (w.ai[x.bk].gV = 1)) 7)
   (if (fQ w.aq x.bk w.ai[x.bk]).gV = 2 then ((s.aj (w.ai[x.bk].down || decide (w.ai[x.bk].gV = 1)) 7).aj (decide (0 < (fQ w.aq x.bk w.ai[x.bk]).aM) && decide ((fQ w.aq x.bk w.ai[x.bk]).aM ≠ x.call)) 8).aQ x.bk { fQ w.aq x.bk w.ai[x.bk] with aM:=x.call } else s.aj (w.ai[x.bk].down || decide (w.ai[x.bk].gV = 1)) 7):=by
   rw [e8]
   show cp N _ (if w.ai[x.bk].gV = 2 then _ else _)
   by_cases c:w.ai[x.bk].gV = 2
   ·rw [if_pos c,if_pos c]
    have h3:=h1.aj (decide (w.ai[x.bk].aM ≠ 0) && decide (w.ai[x.bk].aM ≠ x.call)) 8
    obtain ⟨g1,g2,_⟩:=Pu (w.aj (w.ai[x.bk].down || decide (w.ai[x.bk].gV = 1)) 7) (decide (w.ai[x.bk].aM ≠ 0) && decide (w.ai[x.bk].aM ≠ x.call)) 8
    refine h3.lb (by rw [g1,f1]; exact hx) { w.ai[x.bk] with aM:=x.call } ?_ (by show 0 <= x.call; omega) ?_
    ·rw [g1,f1,(h.sh hx).2]; rfl
    ·rw [g2,f2]; rfl
   ·rw [if_neg c,if_neg c]; exact h1
  have h4:(if w.ai[x.bk].gV = 2 then ((w.aj (w.ai[x.bk].down || decide (w.ai[x.bk].gV = 1)) 7).aj (decide (w.ai[x.bk].aM ≠ 0) && decide (w.ai[x.bk].aM ≠ x.call)) 8).aQ x.bk { w.ai[x.bk] with aM:=x.call } else w.aj (w.ai[x.bk].down || decide (w.ai[x.bk].gV = 1)) 7).aE = w.aE:=by
   split
   ·show ((w.aj _ 7).aj _ 8).aE = _
    rw [(Pu _ _ 8).2.2.1,f3]
   ·exact f3
  have e9:decide (s.most < (oa w.aE[i]).2.aO) = decide (w.most < w.aE[i].aO):=by rw [h.most]; rfl
  rw [e9]
  have h5:=h2.aj (decide (w.most < w.aE[i].aO)) 10
  refine h5.vX ?_ { w.aE[i] with aO:=cH (w.aE[i].aO + 1),at_:=x.bk } ?_ ?_ ?_
  ·rw [(Pu _ _ 10).2.2.1,h4]; exact hi
  ·rw [(Pu _ _ 10).2.2.1,h4,(h.rq hi).2]
  ·show 0 <= cH (w.aE[i].aO + 1) /\ cH (w.aE[i].aO + 1) <= _
   rw [hw]; omega
  ·show _ = (⟨_,_,cH (w.aE[i].aO + 1),if cH (w.aE[i].aO + 1) = 0 then (-1:Int) else (x.bk:Int),_⟩:IR)
   rw [if_neg (by rw [hw]; omega)]; rfl
theorem X0 {N:Nat} {w:RW} {s:IW} (h:cp N w s) (x:Ev):SS N (if dA w x.call then (w.dU ((dy w x.call).getD 0) { w.aE.getD ((dy w x.call).getD 0) zU with ended:=true },true) else (w,false)) (yh s x):=by
 unfold yh
 rw [h.ready]
 cases hr:dA w x.call
 ·exact h.ss false
 ·obtain ⟨i,hf⟩:=nq hr
  obtain ⟨hi,_⟩:=nL hf
  have hpk:=h.pk _ (List.getElem_mem hi)
  simp only [if_true,hf,Option.getD_some]
  rw [(h.rq hi).1,(h.rq hi).2]
  refine ⟨rfl,h.dU hi { w.aE[i] with ended:=true } rfl ?_ rfl⟩
  show 0 <= w.aE[i].aO /\ w.aE[i].aO <= _
  omega
theorem Py {N:Nat} {w:RW} {s:IW} (h:cp N w s):SS N (if w.stop then (w,false) else ({ w with stop:=true },true)) (tX s):=by
 unfold tX
 cases hs:w.stop
 ·exact ⟨by show (!s.stop) = true; rw [h.stop,hs]; rfl,⟨h.aN,h.most,h.now,rfl,h.ev,h.aI,h.len,h.bk,h.aq,h.aE,fun r hr=>by have:=h.pk r hr; omega,h.vn,h.cb,h.oC,h.pl⟩⟩
 ·exact ⟨by show (!s.stop) = false; rw [h.stop,hs]; rfl,⟨h.aN,h.most,h.now,by show true = w.stop; rw [hs],h.ev,h.aI,h.len,h.bk,h.aq,h.aE,fun r hr=>by have:=h.pk r hr; omega,h.vn,h.cb,h.oC,h.pl⟩⟩
theorem An {aq:List RC} {i:Nat}:gm aq i = 0 ↔ ∀ c,c ∈ aq -> c.bk = i -> c.st = 5:=by
 unfold gm
 rw [<- List.countP_eq_length_filter,List.countP_eq_zero]
 constructor
 ·intro h c hc hb
  have:=h c hc
  simpa [hb] using this
 ·intro h c hc
  have:=h c hc
  simp
  exact this
theorem cp.left {N:Nat} {w:RW} {s:IW} (h:cp N w s):zT s = ue w:=by
 have e3:s.aE.any nh = w.aE.any wa:=by rw [h.aE,List.any_map]; rfl
 have e12:(decide (0 < s.busy.length) || s.ai.any rM) = (w.ai.any rO || w.aq.any qm):=by
  rw [Bool.eq_iff_iff]
  simp only [Bool.or_eq_true,List.any_eq_true,decide_eq_true_eq]
  constructor
  ·rintro (h1 | ⟨b,hb,h1⟩)
   ·obtain ⟨q,hq⟩:=List.exists_mem_of_length_pos h1
    have h2:=h.busy q.1
    have h3:(ki s.busy q.1).isSome = true:=(qo _ _).2 (List.mem_map_of_mem hq)
    rw [h3] at h2
    unfold mV at h2
    simp only [Bool.or_eq_true,List.any_eq_true,decide_eq_true_eq,Bool.and_eq_true,beq_iff_eq] at h2
    rcases h2 with ⟨b,hb,h4⟩ | ⟨d,hd,h4,_⟩
    ·refine .inl ⟨b,hb,?_⟩
     unfold rO
     rw [decide_eq_true_eq]
     rcases h4 with h4 | h4
     ·have:=List.length_pos_of_mem h4; omega
     ·have:=List.length_pos_of_mem h4; omega
    ·exact .inr ⟨d,hd,by unfold qm; rw [h4]; rfl⟩
   ·obtain ⟨i,hi,rfl⟩:=List.getElem_of_mem hb
    rw [h.len] at hi
    have h2:=h.bk i _ (List.getElem?_eq_getElem hi)
    rw [List.getElem?_eq_getElem (by rw [h.len]; exact hi)] at h2
    injection h2 with h2
    rw [h2] at h1
    unfold rM fQ at h1
    simp only [decide_eq_true_eq] at h1
    by_cases hz:gm w.aq i = 0
    ·omega
    ·rw [An] at hz
     have:∃ c,c ∈ w.aq /\ ¬ c.st = 5:=by
      refine Classical.byContradiction fun q=>hz fun c hc _=>Classical.byContradiction fun q2=>q ⟨c,hc,q2⟩
     obtain ⟨c,hc,h5⟩:=this
     exact .inr ⟨c,hc,by unfold qm; simp [h5]⟩
  ·rintro (⟨b,hb,h1⟩ | ⟨c,hc,h1⟩)
   ·obtain ⟨i,hi,rfl⟩:=List.getElem_of_mem hb
    unfold rO at h1
    rw [decide_eq_true_eq] at h1
    left
    have:∃ n,n ∈ s.busy.map (·.1):=by
     by_cases hd:0 < w.ai[i].ax.length
     ·obtain ⟨n,hn⟩:=List.exists_mem_of_length_pos hd
      refine ⟨n,(h.pl.Rv n).2 fun e=>?_⟩
      have:=((h.pl.nC n i _ (h.dw hi)).1 hn).1; rw [e] at this; cases this
     ·obtain ⟨n,hn⟩:=List.exists_mem_of_length_pos (show 0 < w.ai[i].waits.length by omega)
      refine ⟨n,(h.pl.Rv n).2 fun e=>?_⟩
      have:=((h.pl.iu n i _ (h.dw hi)).1 hn).1; rw [e] at this; cases this
    obtain ⟨n,hn⟩:=this
    have:=List.length_pos_of_mem hn
    rwa [List.length_map] at this
   ·right
    obtain ⟨i,hi,hb⟩:=h.cb c hc
    have h2:=h.bk i _ (List.getElem?_eq_getElem hi)
    refine ⟨_,List.mem_of_getElem? h2,?_⟩
    unfold rM fQ
    rw [decide_eq_true_eq]
    show (0:Int) < (gm w.aq i:Int)
    have:gm w.aq i ≠ 0:=fun q=>by
     have:=An.1 q c hc hb
     unfold qm at h1
     simp [this] at h1
    omega
 unfold zT ue
 rw [e12,e3]
theorem Pz {N:Nat} {w:RW} {s:IW} (h:cp N w s):SS N (if w.stop then (w.aj (ue w) 11,true) else (w,false)) (qi s):=by
 unfold qi
 rw [h.stop,h.left]
 cases w.stop
 ·exact h.ss false
 ·exact (h.aj _ 11).ss true
theorem PL.only {bl:List (List Int × List Int)} {lz:List (Option Int)} {bz:List (Int × IP)} {wh:List (Int × Int)} (h:PL bl lz bz wh) {call:Int} {bk:Nat} (hp:cu bz call dF = dF \/ ((cu bz call dF = H6 \/ cu bz call dF = BN) /\ cu wh call 0 = bk)) :
 (∀ (i:Nat) b,i ≠ bk -> bl[i]? = some b -> call ∉ b.1 /\ call ∉ b.2) /\ some call ∉ lz:=by
 refine ⟨fun i b hi hb=>⟨fun hm=>?_,fun hm=>?_⟩,fun hm=>?_⟩
 ·have h1:=(h.nC call i b hb).1 hm
  rcases hp with hp | ⟨_,hp⟩
  ·rw [hp] at h1; cases h1.1
  ·omega
 ·have h1:=(h.iu call i b hb).1 hm
  rcases hp with hp | ⟨_,hp⟩
  ·rw [hp] at h1; cases h1.1
  ·omega
 ·have h1:=(h.Ru call).1 hm
  rcases hp with hp | ⟨hp | hp,_⟩ <;> rw [hp] at h1 <;> cases h1
theorem PL.Dk {bl:List (List Int × List Int)} {lz:List (Option Int)} {bz:List (Int × IP)} {wh:List (Int × Int)} (h:PL bl lz bz wh) {call:Int} (hp:cu bz call dF = dF) {i:Nat} {b:List Int × List Int} (hb:bl[i]? = some b):call ∉ b.1 /\ call ∉ b.2:=by
 refine ⟨fun hm=>?_,fun hm=>?_⟩
 ·have h1:=((h.nC call i b hb).1 hm).1; rw [hp] at h1; cases h1
 ·have h1:=((h.iu call i b hb).1 hm).1; rw [hp] at h1; cases h1
theorem PL.isD {bl:List (List Int × List Int)} {lz:List (Option Int)} {bz:List (Int × IP)} {wh:List (Int × Int)} (h:PL bl lz bz wh) {call:Int} {i:Nat} {b:List Int × List Int} (hb:bl[i]? = some b) (hm:call ∈ b.1):cu bz call dF = H6 /\ cu wh call 0 = i /\ call ∉ b.2:=by
 obtain ⟨h1,h2⟩:=(h.nC call i b hb).1 hm
 have h3:cu bz call dF = H6:=by rcases h.one call with e | e | e | e <;> rw [e] at h1 <;> first | exact e | cases h1
 refine ⟨h3,h2,fun h4=>?_⟩
 have h5:=((h.iu call i b hb).1 h4).1
 rw [h3] at h5; cases h5
theorem PL.isW {bl:List (List Int × List Int)} {lz:List (Option Int)} {bz:List (Int × IP)} {wh:List (Int × Int)} (h:PL bl lz bz wh) {call:Int} {i:Nat} {b:List Int × List Int} (hb:bl[i]? = some b) (hm:call ∈ b.2):cu bz call dF = BN /\ cu wh call 0 = i /\ call ∉ b.1:=by
 obtain ⟨h1,h2⟩:=(h.iu call i b hb).1 hm
 have h3:cu bz call dF = BN:=by rcases h.one call with e | e | e | e <;> rw [e] at h1 <;> first | exact e | cases h1
 refine ⟨h3,h2,fun h4=>?_⟩
 have h5:=((h.nC call i b hb).1 h4).1
 rw [h3] at h5; cases h5
theorem cp.move {N:Nat} {w:RW} {s:IW} (h:cp N w s) (call:Int) {k:Nat} (hk:k < w.ai.length) (b':RB) (hp:0 <= b'.aM) (cns':List RC) {ib':IB} (he:ib' = fQ cns' k b') {q:IP} (hq:q = dF \/ q = H6 \/ q = BN \/ q = Rt)
 (D1:cu s.busy call dF = dF \/ cu s.busy call dF = Rt \/ ((cu s.busy call dF = H6 \/ cu s.busy call dF = BN) /\ cu s.nF call 0 = k))
 (hd:∀ c,c ≠ call -> (c ∈ b'.ax ↔ c ∈ w.ai[k].ax) /\ (c ∈ b'.waits ↔ c ∈ w.ai[k].waits))
 (hd2:(call ∈ b'.ax ↔ q.ax = true) /\ (call ∈ b'.waits ↔ q.waits = true)) (sk:b'.ax.Nodup)
 (qV:∀ i,i ≠ k -> gm cns' i = gm w.aq i) (aec:(cns'.map (·.num)).Nodup) (Ax:∀ c,c ∈ cns' -> ∃ i:Nat,i < w.ai.length /\ c.bk = i)
 (hl:∀ c,c ≠ call -> (some c ∈ cns'.map eY ↔ some c ∈ w.aq.map eY)) (iS:some call ∈ cns'.map eY ↔ q.bt = true)
 (hu:∀ (i j:Nat) c,(cns'.map eY)[i]? = some (some c) -> (cns'.map eY)[j]? = some (some c) -> i = j)
 {w':RW} {s':IW} (o:List Int) (hw:w' = { w with ai:=w.ai.set k b',aq:=cns' }) (hs:s' = { s with ai:=s.ai.set k ib',aq:=cns'.map jY,ord:=o,busy:=if q = dF then nX s.busy call else jv s.busy call q,nF:=if q = dF then s.nF else jv s.nF call k }):cp N w' s':=by
 subst hw hs
 refine ⟨h.aN,h.most,h.now,h.stop,h.ev,h.aI,by dsimp only; rw [List.length_set,List.length_set,h.len],y1 h hk cns' qV b' he,rfl,h.aE,h.pk,Di h hp,fun c hc=>by dsimp only; rw [List.length_set]; exact Ax c hc,aec,?_⟩
 refine h.pl.to (call:=call) (bk:=k) (by rw [List.length_map]; exact hk) hq rfl rfl (by simp) (fun i b b2 hb cz=>?_) hl iS hu
 have hi:i < w.ai.length:=by have:=(List.getElem?_eq_some_iff.1 hb).1; rwa [List.length_map] at this
 have nU:=hb
 rw [h.dw hi] at hb
 injection hb with hb
 dsimp only at cz
 rw [List.getElem?_map,List.getElem?_set] at cz
 by_cases e:k = i
 ·subst e
  rw [if_pos rfl,if_pos hk] at cz
  injection cz with cz
  subst hb cz
  exact ⟨hd,⟨fun m=>⟨hd2.1.1 m,rfl⟩,fun m=>hd2.1.2 m.1⟩,⟨fun m=>⟨hd2.2.1 m,rfl⟩,fun m=>hd2.2.2 m.1⟩,sk⟩
 ·rw [if_neg e,List.getElem?_eq_getElem hi] at cz
  injection cz with cz
  subst hb cz
  have pK:call ∉ w.ai[i].ax /\ call ∉ w.ai[i].waits:=by
   refine ⟨fun hm=>?_,fun hm=>?_⟩
   ·have h1:=(h.pl.nC call i _ nU).1 hm
    rcases D1 with hp | hp | ⟨_,hp⟩
    ·rw [hp] at h1; cases h1.1
    ·rw [hp] at h1; cases h1.1
    ·omega
   ·have h1:=(h.pl.iu call i _ nU).1 hm
    rcases D1 with hp | hp | ⟨_,hp⟩
    ·rw [hp] at h1; cases h1.1
    ·rw [hp] at h1; cases h1.1
    ·omega
  exact ⟨fun c _=>⟨Iff.rfl,Iff.rfl⟩,⟨fun m=>absurd m pK.1,fun m=>absurd m.2 e⟩,⟨fun m=>absurd m pK.2,fun m=>absurd m.2 e⟩,h.pl.LO _ (List.mem_of_getElem? nU)⟩
theorem cp.Dl {N:Nat} {w:RW} {s:IW} (h:cp N w s) (call:Int) {k:Nat} (hk:k < w.ai.length) (b':RB) (hp:0 <= b'.aM) {ib':IB} (he:ib' = fQ w.aq k b') {q:IP} (hq:q = dF \/ q = H6 \/ q = BN)
 (D1:cu s.busy call dF = dF \/ ((cu s.busy call dF = H6 \/ cu s.busy call dF = BN) /\ cu s.nF call 0 = k))
 (hd:∀ c,c ≠ call -> (c ∈ b'.ax ↔ c ∈ w.ai[k].ax) /\ (c ∈ b'.waits ↔ c ∈ w.ai[k].waits))
 (hd2:(call ∈ b'.ax ↔ q.ax = true) /\ (call ∈ b'.waits ↔ q.waits = true)) (sk:b'.ax.Nodup)
 {w':RW} {s':IW} (hw:w' = { w with ai:=w.ai.set k b' }) (hs:s' = { s with ai:=s.ai.set k ib',busy:=if q = dF then nX s.busy call else jv s.busy call q,nF:=if q = dF then s.nF else jv s.nF call k }):cp N w' s':=by
 refine h.move call hk b' hp w.aq he (q:=q) (by rcases hq with e | e | e <;> simp [e]) (D1.elim .inl fun a=>.inr (.inr a)) hd hd2 sk (fun _ _=>rfl) h.oC h.cb (fun _ _=>Iff.rfl) ?_ h.pl.uni s.ord (by rw [hw]) (by rw [hs,h.aq])
 refine ⟨fun m=>absurd m (h.pl.only D1).2,fun m=>?_⟩
 rcases hq with e | e | e <;> rw [e] at m <;> cases m
theorem P0 {N:Nat} {w:RW} {s:IW} (h:cp N w s) (x:Ev) (hx:x.bk < w.ai.length):SS N (if ju w x.call x.bk then ((w.aQ x.bk { w.ai.getD x.bk gD with waits:=(w.ai.getD x.bk gD).waits ++ [x.call] }).aj (decide ((w.aN.getD x.bk Em).queue < ((w.ai.getD x.bk gD).waits.length + 1:Nat))) 3,true) else (w,false)) (qe s x):=by
 unfold qe
 rw [h.waits x hx,h.may x hx,(h.sh hx).1,(h.sh hx).2,h.aN]
 cases hm:ju w x.call x.bk
 ·have:(decide (x.call ∈ w.ai[x.bk].waits) || !(decide (x.call ∈ w.ai[x.bk].waits) || false)) = true:=by cases decide (x.call ∈ w.ai[x.bk].waits) <;> rfl
  rw [if_pos this]
  exact h.ss false
 ·have hr:dA w x.call = true:=by unfold ju at hm; simp only [Bool.and_eq_true] at hm; exact hm.1
  have mE:=h.free hr
  obtain ⟨f1,f2⟩:=h.pl.Dk mE (h.dw hx)
  dsimp only at f1 f2
  have e0:decide (x.call ∈ w.ai[x.bk].waits) = false:=by simp [f2]
  rw [e0,if_pos rfl,if_neg (by simp)]
  refine ⟨rfl,(cp.aj ?_ _ 3).mono (Nat.le_succ _)⟩
  rw [gR]
  refine h.Dl x.call hx { w.ai[x.bk] with waits:=w.ai[x.bk].waits ++ [x.call] } (show 0 <= w.ai[x.bk].aM from h.vn _ (List.getElem_mem hx)) rfl (q:=BN) (by simp) (.inl mE) (fun c hc=>⟨Iff.rfl,?_⟩) ⟨?_,?_⟩ (h.pl.LO _ (List.mem_of_getElem? (h.dw hx))) rfl rfl
  ·show c ∈ w.ai[x.bk].waits ++ [x.call] ↔ _
   simp [hc]
  ·exact ⟨fun m=>absurd m f1,fun m=>by cases m⟩
  ·show x.call ∈ w.ai[x.bk].waits ++ [x.call] ↔ _
   simp [BN]
theorem Kr {N:Nat} {w:RW} {s:IW} (h:cp N w s) (x:Ev) (hx:x.bk < w.ai.length):SS N (if x.call ∈ (w.ai.getD x.bk gD).waits then (w.aQ x.bk { w.ai.getD x.bk gD with waits:=aZ (w.ai.getD x.bk gD).waits x.call },true) else (w,false)) (mY s x):=by
 unfold mY bL
 rw [h.waits x hx,(h.sh hx).1,(h.sh hx).2]
 by_cases hm:x.call ∈ w.ai[x.bk].waits
 ·rw [if_pos hm,if_pos (by simpa using hm)]
  obtain ⟨g1,g2,g3⟩:=h.pl.isW (h.dw hx) hm
  dsimp only at g3
  refine ⟨rfl,cp.mono ?_ (Nat.le_succ _)⟩
  rw [gR]
  refine h.Dl x.call hx { w.ai[x.bk] with waits:=aZ w.ai[x.bk].waits x.call } (show 0 <= w.ai[x.bk].aM from h.vn _ (List.getElem_mem hx)) rfl (q:=dF) (by simp) (.inr ⟨.inr g1,g2⟩) (fun c hc=>⟨Iff.rfl,?_⟩) ⟨?_,?_⟩ (h.pl.LO _ (List.mem_of_getElem? (h.dw hx))) rfl rfl
  ·show c ∈ aZ w.ai[x.bk].waits x.call ↔ _
   rw [gX]; exact ⟨fun m=>m.1,fun m=>⟨m,hc⟩⟩
  ·exact ⟨fun m=>absurd m g3,fun m=>by cases m⟩
  ·show x.call ∈ aZ w.ai[x.bk].waits x.call ↔ _
   rw [gX]; exact ⟨fun m=>absurd rfl m.2,fun m=>by cases m⟩
 ·rw [if_neg hm,if_neg (by simpa using hm)]
  exact h.ss false
theorem w6 {N:Nat} {w:RW} {s:IW} (h:cp N w s) (bW:∀ b,b ∈ w.ai -> b.ax.length <= 100000) (x:Ev) (hx:x.bk < w.ai.length):(bd s x).2 = decide (x.call ∈ w.ai[x.bk].ax) /\ (x.call ∈ w.ai[x.bk].ax -> cp N (w.aQ x.bk { w.ai[x.bk] with ax:=aZ w.ai[x.bk].ax x.call }) (bd s x).1 /\ cu (bd s x).1.busy x.call dF = dF /\ (bd s x).1.aq = s.aq /\ (bd s x).1.ord = s.ord) /\ (x.call ∉ w.ai[x.bk].ax -> (bd s x).1 = s):=by
 have hb:x.call ∈ w.ai[x.bk].ax ↔ (iO s x.call).ax = true /\ jD s x.call = x.bk:=h.pl.nC x.call x.bk _ (h.dw hx)
 unfold bd
 by_cases hm:x.call ∈ w.ai[x.bk].ax
 ·rw [if_pos (hb.1 hm)]
  obtain ⟨g1,g2,g3⟩:=h.pl.isD (h.dw hx) hm
  dsimp only at g3
  refine ⟨by simp [hm],fun _=>?_,fun q=>absurd hm q⟩
  have hs:=bW _ (List.getElem_mem hx)
  have sk:w.ai[x.bk].ax.Nodup:=h.pl.LO _ (List.mem_of_getElem? (h.dw hx))
  dsimp only
  rw [gR,(h.sh hx).1]
  refine ⟨?_,?_,rfl,rfl⟩
  ·refine h.Dl x.call hx { w.ai[x.bk] with ax:=aZ w.ai[x.bk].ax x.call } (show 0 <= w.ai[x.bk].aM from h.vn _ (List.getElem_mem hx)) ?_ (q:=dF) (by simp) (.inr ⟨.inl g1,g2⟩) (fun c hc=>⟨?_,Iff.rfl⟩) ⟨?_,?_⟩ (BO _ sk) rfl rfl
   ·unfold fQ
    dsimp only
    rw [H7 sk hm]
    rw [show cH ((w.ai[x.bk].ax.length:Int) - 1) = (w.ai[x.bk].ax.length:Int) - 1 from gN (by omega)]
   ·show c ∈ aZ w.ai[x.bk].ax x.call ↔ _
    rw [gX]; exact ⟨fun m=>m.1,fun m=>⟨m,hc⟩⟩
   ·show x.call ∈ aZ w.ai[x.bk].ax x.call ↔ _
    rw [gX]; exact ⟨fun m=>absurd rfl m.2,fun m=>by cases m⟩
   ·exact ⟨fun m=>absurd m g3,fun m=>by cases m⟩
  ·dsimp only
   rw [if_pos rfl,uF _ _ _ _ h.pl.key,if_pos rfl]
 ·rw [if_neg (fun q=>hm (hb.2 q))]
  exact ⟨by simp [hm],fun q=>absurd q hm,fun _=>rfl⟩
theorem E6 {N:Nat} {w:RW} {s:IW} (h:cp N w s) (bW:∀ b,b ∈ w.ai -> b.ax.length <= 100000) (x:Ev) (hx:x.bk < w.ai.length):SS N (if x.call ∈ (w.ai.getD x.bk gD).ax then (w.aQ x.bk { w.ai.getD x.bk gD with ax:=aZ (w.ai.getD x.bk gD).ax x.call },true) else (w,false)) (bd s x):=by
 obtain ⟨h1,h2,h3⟩:=w6 h bW x hx
 rw [(h.sh hx).2]
 by_cases hm:x.call ∈ w.ai[x.bk].ax
 ·rw [if_pos hm]
  exact ⟨by rw [h1]; simp [hm],(h2 hm).1.mono (Nat.le_succ _)⟩
 ·rw [if_neg hm]
  exact ⟨by rw [h1]; simp [hm],by rw [h3 hm]; exact h.mono (Nat.le_succ _)⟩
theorem HA {α:Type} {l:List α} {k:Nat} (hk:k < l.length) (a d:α):(l.set k a).getD k d = a:=by
 rw [List.getD_eq_getElem?_getD,List.getElem?_set,if_pos rfl,if_pos hk]; rfl
theorem BP (aq:List RC) (i:Nat):gm aq i <= aq.length:=List.length_filter_le _ _
theorem HB {N:Nat} {w:RW} {s:IW} (h:cp N w s) (bW:∀ b,b ∈ w.ai -> b.ax.length <= 100000) (hcz:w.aq.length <= 100000) (x:Ev) (hx:x.bk < w.ai.length) (hp:cu s.busy x.call dF = dF \/ (cu s.busy x.call dF = BN /\ cu s.nF x.call 0 = x.bk)) :
 cp N ((w.aQ x.bk { w.ai[x.bk] with waits:=aZ w.ai[x.bk].waits x.call }).aQ x.bk { w.ai[x.bk] with waits:=aZ w.ai[x.bk].waits x.call,ax:=w.ai[x.bk].ax ++ [x.call] })
  ((aW (bL s x) x ⟨true,false,false⟩).aQ x.bk { (aW (bL s x) x ⟨true,false,false⟩).ai.getD x.bk gp with ax:=cH (((aW (bL s x) x ⟨true,false,false⟩).ai.getD x.bk gp).ax + 1) }) /\
 cH (cH (((aW (bL s x) x ⟨true,false,false⟩).ai.getD x.bk gp).ax + 1) + ((aW (bL s x) x ⟨true,false,false⟩).ai.getD x.bk gp).cJ) = rC ((w.aQ x.bk { w.ai[x.bk] with waits:=aZ w.ai[x.bk].waits x.call }).aQ x.bk { w.ai[x.bk] with waits:=aZ w.ai[x.bk].waits x.call,ax:=w.ai[x.bk].ax ++ [x.call] }) x.bk:=by
 have XK:x.bk < s.ai.length:=by rw [h.len]; exact hx
 have hs:=bW _ (List.getElem_mem hx)
 have sk:w.ai[x.bk].ax.Nodup:=h.pl.LO _ (List.mem_of_getElem? (h.dw hx))
 have P1:x.call ∉ w.ai[x.bk].ax:=by
  rcases hp with hp | hp
  ·exact (h.pl.Dk hp (h.dw hx)).1
  ·intro hm
   have:=(h.pl.isD (h.dw hx) hm).1
   rw [hp.1] at this; cases this
 have e1:(aW (bL s x) x ⟨true,false,false⟩).ai.getD x.bk gp = { fQ w.aq x.bk w.ai[x.bk] with waits:=aZ w.ai[x.bk].waits x.call }:=by
  rw [gR]
  unfold bL
  dsimp only
  rw [HA XK,(h.sh hx).1]; rfl
 rw [e1]
 have RY:=BP w.aq x.bk
 have e2:cH (((w.ai[x.bk].ax.length:Nat):Int) + 1) = (w.ai[x.bk].ax.length:Int) + 1:=gN (by omega)
 constructor
 ·refine h.Dl x.call hx { w.ai[x.bk] with waits:=aZ w.ai[x.bk].waits x.call,ax:=w.ai[x.bk].ax ++ [x.call] } (show 0 <= w.ai[x.bk].aM from h.vn _ (List.getElem_mem hx)) (ib':={ fQ w.aq x.bk w.ai[x.bk] with waits:=aZ w.ai[x.bk].waits x.call,ax:=cH ((w.ai[x.bk].ax.length:Int) + 1) }) ?_ (q:=H6) (by simp) (hp.elim .inl fun q=>.inr ⟨.inr q.1,q.2⟩) (fun c hc=>⟨?_,?_⟩) ⟨?_,?_⟩ ?_ ?_ ?_
  ·unfold fQ
   dsimp only
   rw [e2]
   simp
  ·show c ∈ w.ai[x.bk].ax ++ [x.call] ↔ _
   simp [hc]
  ·show c ∈ aZ w.ai[x.bk].waits x.call ↔ _
   rw [gX]; exact ⟨fun m=>m.1,fun m=>⟨m,hc⟩⟩
  ·show x.call ∈ w.ai[x.bk].ax ++ [x.call] ↔ _
   simp [H6]
  ·show x.call ∈ aZ w.ai[x.bk].waits x.call ↔ _
   rw [gX]; exact ⟨fun m=>absurd rfl m.2,fun m=>by cases m⟩
  ·show (w.ai[x.bk].ax ++ [x.call]).Nodup
   rw [List.nodup_append]
   exact ⟨sk,by simp,fun a ha b hb=>by rw [List.mem_singleton.1 hb]; rintro rfl; exact P1 ha⟩
  ·unfold RW.aQ
   dsimp only
   rw [List.set_set]
  ·rw [gR]
   unfold bL IW.aQ
   dsimp only
   rw [List.set_set]; rfl
 ·have e3:((w.aQ x.bk { w.ai[x.bk] with waits:=aZ w.ai[x.bk].waits x.call }).aQ x.bk { w.ai[x.bk] with waits:=aZ w.ai[x.bk].waits x.call,ax:=w.ai[x.bk].ax ++ [x.call] }).ai[x.bk]? = some { w.ai[x.bk] with waits:=aZ w.ai[x.bk].waits x.call,ax:=w.ai[x.bk].ax ++ [x.call] }:=by
   unfold RW.aQ
   dsimp only
   rw [List.getElem?_set,if_pos rfl,if_pos (by rw [List.length_set]; exact hx)]
  unfold rC
  rw [e3]
  show cH (cH ((w.ai[x.bk].ax.length:Int) + 1) + (gm w.aq x.bk:Int)) = (((w.ai[x.bk].ax ++ [x.call]).length + gm w.aq x.bk:Nat):Int)
  rw [e2,show cH ((w.ai[x.bk].ax.length:Int) + 1 + (gm w.aq x.bk:Int)) = _ from gN (by omega)]
  simp
theorem Ao {N:Nat} {w:RW} {s:IW} (c1:cp N w s) {a b m:Int} (c2:a = b):cp (N + 1) (w.aj (decide (m < b)) 2) (s.aj (decide (m < a)) 2):=by
 rw [c2]
 exact (c1.aj _ 2).mono (Nat.le_succ _)
theorem P2 {N:Nat} {w:RW} {s:IW} (h:cp N w s) (bW:∀ b,b ∈ w.ai -> b.ax.length <= 100000) (hcz:w.aq.length <= 100000) (x:Ev) (hx:x.bk < w.ai.length) (h5:x.kind = 5):SS N (eC w x) (rJ s x):=by
 unfold eC rJ
 rw [if_neg (by omega),if_neg (by omega),if_pos h5,h.may x hx,h.first x hx,(h.sh hx).2,h.aN]
 by_cases hm:x.call ∈ w.ai[x.bk].waits \/ ju w x.call x.bk = true
 ·have e0:(decide (x.call ∈ w.ai[x.bk].waits) || ju w x.call x.bk) = true:=by simpa using hm
  rw [if_pos e0,if_pos hm]
  have hp:cu s.busy x.call dF = dF \/ (cu s.busy x.call dF = BN /\ cu s.nF x.call 0 = x.bk):=by
   rcases hm with hm | hm
   ·obtain ⟨g1,g2,_⟩:=h.pl.isW (h.dw hx) hm
    exact .inr ⟨g1,g2⟩
   ·have hr:dA w x.call = true:=by unfold ju at hm; simp only [Bool.and_eq_true] at hm; exact hm.1
    exact .inl (h.free hr)
  have h1:=h.aj (fx w x) 9
  generalize fx w x = c0 at h1 ⊢
  cases c0
  ·obtain ⟨c1,c2⟩:=HB (w:=w) (s:=s) h1 bW hcz x hx hp
   exact ⟨rfl,Ao c1 c2⟩
  ·obtain ⟨c1,c2⟩:=HB (w:=w.fault 9) (s:=s.fault 9) h1 bW hcz x hx hp
   exact ⟨rfl,Ao c1 c2⟩
 ·have e0:(decide (x.call ∈ w.ai[x.bk].waits) || ju w x.call x.bk) = false:=by simpa using hm
  rw [if_neg hm,e0,if_neg (by simp)]
  exact h.ss false
theorem Ap {aq:List RC} {i:Nat} (hi:i < aq.length) (c':RC) (h2:c'.bk = aq[i].bk) (h4:aq[i].st ≠ 5) (h5:c'.st ≠ 5) (j:Nat):gm (aq.set i c') j = gm aq j:=by
 have:=y2 hi c' j
 rw [h2] at this
 simp only [ne_eq,h4,h5,not_false_eq_true,and_true] at this
 omega
theorem P3 {L:List (Option Int)} {i:Nat} {c:Int} (hi:L[i]? = some none) (hn:some c ∉ L) (hu:∀ (i j:Nat) c,L[i]? = some (some c) -> L[j]? = some (some c) -> i = j) :
 (∀ d,d ≠ c -> (some d ∈ L.set i (some c) ↔ some d ∈ L)) /\ some c ∈ L.set i (some c) /\ ∀ (j k:Nat) d,(L.set i (some c))[j]? = some (some d) -> (L.set i (some c))[k]? = some (some d) -> j = k:=by
 have nR:=(List.getElem?_eq_some_iff.1 hi).1
 refine ⟨fun d hd=>⟨fun m=>?_,fun m=>?_⟩,List.mem_iff_getElem?.2 ⟨i,by rw [List.getElem?_set,if_pos rfl,if_pos nR]⟩,fun j k d h1 h2=>?_⟩
 ·rcases List.mem_or_eq_of_mem_set m with m | m
  ·exact m
  ·injection m with m; exact absurd m hd
 ·obtain ⟨j,hj⟩:=List.mem_iff_getElem?.1 m
  refine List.mem_iff_getElem?.2 ⟨j,?_⟩
  rw [List.getElem?_set,if_neg]
  ·exact hj
  ·rintro rfl; rw [hi] at hj; cases hj
 ·rw [List.getElem?_set] at h1 h2
  split at h1
  ·rename_i e1
   injection h1 with h1
   injection h1 with h1
   split at h2
   ·rename_i e2; rw [<- e1,<- e2]
   ·exact absurd (List.mem_iff_getElem?.2 ⟨k,by rw [h1]; exact h2⟩) hn
  ·split at h2
   ·injection h2 with h2
    injection h2 with h2
    exact absurd (List.mem_iff_getElem?.2 ⟨j,by rw [h2]; exact h1⟩) hn
   ·exact hu j k d h1 h2
theorem P4 {L:List (Option Int)} {i:Nat} {c:Int} (hi:L[i]? = some (some c)) (hu:∀ (i j:Nat) c,L[i]? = some (some c) -> L[j]? = some (some c) -> i = j) :
 (∀ d,d ≠ c -> (some d ∈ L.set i none ↔ some d ∈ L)) /\ some c ∉ L.set i none /\ ∀ (j k:Nat) d,(L.set i none)[j]? = some (some d) -> (L.set i none)[k]? = some (some d) -> j = k:=by
 have nR:=(List.getElem?_eq_some_iff.1 hi).1
 have old:∀ (j:Nat) d,(L.set i none)[j]? = some (some d) -> L[j]? = some (some d) /\ i ≠ j:=fun j d h=>by
  rw [List.getElem?_set] at h
  split at h
  ·cases h
  ·exact ⟨h,‹_›⟩
 refine ⟨fun d hd=>⟨fun m=>?_,fun m=>?_⟩,fun m=>?_,fun j k d h1 h2=>hu j k d (old j d h1).1 (old k d h2).1⟩
 ·obtain ⟨j,hj⟩:=List.mem_iff_getElem?.1 m
  exact List.mem_iff_getElem?.2 ⟨j,(old j d hj).1⟩
 ·obtain ⟨j,hj⟩:=List.mem_iff_getElem?.1 m
  refine List.mem_iff_getElem?.2 ⟨j,?_⟩
  rw [List.getElem?_set,if_neg]
  ·exact hj
  ·rintro rfl; rw [hi] at hj; injection hj with hj; injection hj with hj; exact hd hj.symm
 ·obtain ⟨j,hj⟩:=List.mem_iff_getElem?.1 m
  obtain ⟨h1,h2⟩:=old j c hj
  exact h2 (hu i j c hi h1)
theorem uI {N:Nat} {w:RW} {s:IW} (h:cp N w s) (x:Ev) (hx:x.bk < w.ai.length) {i:Nat} (hi:i < w.aq.length) (h1:w.aq[i].st ≠ 1) (h5:w.aq[i].st ≠ 5) (hb:w.aq[i].bk = x.bk) (hp:cu s.busy x.call dF = dF \/ (cu s.busy x.call dF = BN /\ cu s.nF x.call 0 = x.bk)) :
 cp N ((w.aQ x.bk { w.ai[x.bk] with waits:=aZ w.ai[x.bk].waits x.call }).bh i { w.aq[i] with st:=1,call:=x.call,bt:=cH (w.aq[i].bt + 1) }) (j3 (bL s x) i x):=by
 have LQ:(w.aq.map eY)[i]? = some none:=by
  rw [List.getElem?_map,List.getElem?_eq_getElem hi]
  show some (eY w.aq[i]) = _
  unfold eY; rw [if_neg h1]
 have pK:=(h.pl.only (call:=x.call) (bk:=x.bk) (hp.elim .inl fun q=>.inr ⟨.inr q.1,q.2⟩)).2
 obtain ⟨l1,l2,l3⟩:=P3 LQ pK h.pl.uni
 have P1:x.call ∉ w.ai[x.bk].ax:=by
  rcases hp with hp | hp
  ·exact (h.pl.Dk hp (h.dw hx)).1
  ·intro hm
   have:=(h.pl.isD (h.dw hx) hm).1
   rw [hp.1] at this; cases this
 obtain ⟨c',ec⟩:∃ c':RC,({ w.aq[i] with st:=1,call:=x.call,bt:=cH (w.aq[i].bt + 1) }:RC) = c':=⟨_,rfl⟩
 have q1:c'.num = w.aq[i].num /\ c'.bk = w.aq[i].bk /\ c'.st = 1 /\ c'.call = x.call:=by rw [<- ec]; exact ⟨rfl,rfl,rfl,rfl⟩
 have q2:({ jY w.aq[i] with st:=1,call:=x.call,bt:=cH ((jY w.aq[i]).bt + 1) }:IC) = jY c':=by
  rw [<- ec]
  unfold jY
  dsimp only
  rw [if_neg h5,if_neg (by omega)]
 rw [ec]
 have hY:(w.aq.set i c').map eY = (w.aq.map eY).set i (some x.call):=by rw [List.map_set]; congr 1; unfold eY; rw [if_pos q1.2.2.1,q1.2.2.2]
 have qV:∀ j,gm (w.aq.set i c') j = gm w.aq j:=fun j=>Ap hi c' q1.2.1 h5 (by rw [q1.2.2.1]; omega) j
 refine h.move x.call hx { w.ai[x.bk] with waits:=aZ w.ai[x.bk].waits x.call } (show 0 <= w.ai[x.bk].aM from h.vn _ (List.getElem_mem hx)) (w.aq.set i c') (ib':={ fQ w.aq x.bk w.ai[x.bk] with waits:=aZ w.ai[x.bk].waits x.call }) ?_ (q:=Rt) (by simp) ?_ (fun c hc=>⟨Iff.rfl,?_⟩) ⟨?_,?_⟩ (h.pl.LO _ (List.mem_of_getElem? (h.dw hx))) (fun j _=>qV j) ?_ ?_ ?_ ?_ ?_ s.ord ?_ ?_
 ·unfold fQ
  dsimp only
  rw [qV]
 ·rcases hp with hp | hp
  ·exact .inl hp
  ·exact .inr (.inr ⟨.inr hp.1,hp.2⟩)
 ·show c ∈ aZ w.ai[x.bk].waits x.call ↔ _
  rw [gX]; exact ⟨fun m=>m.1,fun m=>⟨m,hc⟩⟩
 ·exact ⟨fun m=>absurd m P1,fun m=>by cases m⟩
 ·show x.call ∈ aZ w.ai[x.bk].waits x.call ↔ _
  rw [gX]; exact ⟨fun m=>absurd rfl m.2,fun m=>by cases m⟩
 ·rw [nM hi q1.1]; exact h.oC
 ·intro c hc
  rcases List.mem_or_eq_of_mem_set hc with h6 | h6
  ·exact h.cb c h6
  ·rw [h6,q1.2.1]; exact h.cb _ (List.getElem_mem hi)
 ·rw [hY]; exact l1
 ·rw [hY]; exact ⟨fun _=>rfl,fun _=>l2⟩
 ·rw [hY]; exact l3
 ·rfl
 ·unfold j3
  rw [gR]
  unfold bL
  dsimp only
  rw [(h.cn hi).1,(h.sh hx).1,h.aq,List.map_set,<- q2]
  rfl
theorem HC {N:Nat} {w:RW} {s:IW} (h:cp N w s) (x:Ev) (hx:x.bk < w.ai.length) (hm:x.call ∈ w.ai[x.bk].waits \/ ju w x.call x.bk = true):cu s.busy x.call dF = dF \/ (cu s.busy x.call dF = BN /\ cu s.nF x.call 0 = x.bk):=by
 rcases hm with hm | hm
 ·obtain ⟨g1,g2,_⟩:=h.pl.isW (h.dw hx) hm
  exact .inr ⟨g1,g2⟩
 ·have hr:dA w x.call = true:=by unfold ju at hm; simp only [Bool.and_eq_true] at hm; exact hm.1
  exact .inl (h.free hr)
theorem Ks {N:Nat} {w:RW} {s:IW} (h:cp N w s) (x:Ev) (hx:x.bk < w.ai.length):SS N (lK w x) (ng s x):=by
 unfold lK ng
 rw [h.may x hx,h.first x hx,h.there,(h.sh hx).2,h.aN]
 by_cases hm:x.call ∈ w.ai[x.bk].waits \/ ju w x.call x.bk = true
 ·have e0:(decide (x.call ∈ w.ai[x.bk].waits) || ju w x.call x.bk) = true:=by simpa using hm
  rw [if_pos e0,if_pos hm]
  have hp:=HC h x hx hm
  cases ht:eX w x.conn x.bk with
  | none=>exact (h.fault 4).ss true
  | some i =>
    obtain ⟨hi,t1,t2,t3⟩:=lk ht
    dsimp only
    rw [(h.cn hi).1,(h.cn hi).2]
    show SS N _ (if w.aq[i].st = 4 then _ else if w.aq[i].st = 1 then _ else _)
    by_cases c4:w.aq[i].st = 4
    ·rw [if_pos c4,if_pos c4]; exact (h.fault 4).ss true
    rw [if_neg c4,if_neg c4]
    by_cases c1:w.aq[i].st = 1
    ·rw [if_pos c1,if_pos c1]; exact (h.fault 1).ss true
    rw [if_neg c1,if_neg c1]
    have e1:(decide ((w.aN.getD x.bk ⟨0,0,0,0⟩).xU <= cH (s.now - (jY w.aq[i]).born)) || (decide ((jY w.aq[i]).st = 2) && decide ((w.aN.getD x.bk ⟨0,0,0,0⟩).idle <= cH (s.now - (jY w.aq[i]).since)))) = (decide ((w.aN.getD x.bk Em).xU <= cH (w.now - w.aq[i].born)) || (decide (w.aq[i].st = 2) && decide ((w.aN.getD x.bk Em).idle <= cH (w.now - w.aq[i].since)))):=by rw [h.now]; rfl
    rw [e1]
    generalize (decide ((w.aN.getD x.bk Em).xU <= cH (w.now - w.aq[i].born)) || (decide (w.aq[i].st = 2) && decide ((w.aN.getD x.bk Em).idle <= cH (w.now - w.aq[i].since)))) = f5
    have h2:=(h.aj (fx w x) 9).aj f5 5
    generalize fx w x = f9 at h2 ⊢
    refine ⟨rfl,cp.mono ?_ (Nat.le_succ _)⟩
    cases f9 <;> cases f5
    ·exact uI (w:=w) (s:=s) h2 x hx hi c1 t3 t2 hp
    ·exact uI (w:=w.fault 5) (s:=s.fault 5) h2 x hx hi c1 t3 t2 hp
    ·exact uI (w:=w.fault 9) (s:=s.fault 9) h2 x hx hi c1 t3 t2 hp
    ·exact uI (w:=(w.fault 9).fault 5) (s:=(s.fault 9).fault 5) h2 x hx hi c1 t3 t2 hp
 ·have e0:(decide (x.call ∈ w.ai[x.bk].waits) || ju w x.call x.bk) = false:=by simpa using hm
  rw [if_neg hm,e0,if_neg (by simp)]
  exact h.ss false
theorem ll {α:Type} {l:List α} {k:Nat} (hk:k < l.length):l.set k l[k] = l:=by
 apply List.ext_getElem?
 intro i
 rw [List.getElem?_set]
 split
 ·rename_i e; subst e; simp [hk]
 ·rfl
theorem w7 {l:List Int} {n:Int} (h:n ∉ l):aZ l n = l:=by
 unfold aZ
 rw [List.filter_eq_self]
 intro a ha
 simp
 rintro rfl
 exact h ha
theorem X1 {N:Nat} {w:RW} {s:IW} (h:cp N w s) (hcz:w.aq.length <= 100000) (x:Ev) (hx:x.bk < w.ai.length) (hn:x.conn ∉ w.aq.map (·.num)) :
 cp N { w with aq:=w.aq ++ [⟨x.conn,x.bk,3,0,w.now,0,0,0,0,0⟩] } (({ s with aq:=s.aq ++ [(⟨x.conn,x.bk,0,s.now,-1,0,0,3,0,0⟩:IC)],ord:=s.ord ++ [x.conn] }:IW).aQ x.bk { s.ai.getD x.bk gp with cJ:=cH ((s.ai.getD x.bk gp).cJ + 1) }):=by
 have qV:∀ j,gm (w.aq ++ [⟨x.conn,x.bk,3,0,w.now,0,0,0,0,0⟩]) j = gm w.aq j + if x.bk = j then 1 else 0:=fun j=>by
  unfold gm
  rw [List.filter_append,List.length_append]
  congr 1
  by_cases e:x.bk = j
  ·rw [if_pos e,e]; simp
  ·rw [if_neg e]
   have:¬ (x.bk:Int) = j:=by omega
   simp [this]
 have jj:=BP w.aq x.bk
 have LQ:(w.aq ++ [(⟨x.conn,x.bk,3,0,w.now,0,0,0,0,0⟩:RC)]).map eY = w.aq.map eY ++ [none]:=by rw [List.map_append]; rfl
 refine ⟨h.aN,h.most,h.now,h.stop,h.ev,h.aI,?_,?_,?_,h.aE,h.pk,h.vn,fun c hc=>?_,?_,?_⟩
 ·unfold IW.aQ
  dsimp only
  rw [List.length_set,h.len]
 ·have:=y1 h hx (w.aq ++ [⟨x.conn,x.bk,3,0,w.now,0,0,0,0,0⟩]) (fun j hj=>by rw [qV,if_neg (fun e=>hj e.symm)]; rfl) w.ai[x.bk] (ib':={ s.ai.getD x.bk gp with cJ:=cH ((s.ai.getD x.bk gp).cJ + 1) }) (by
   rw [(h.sh hx).1]
   unfold fQ
   dsimp only
   rw [qV,if_pos rfl,show cH ((gm w.aq x.bk:Int) + 1) = _ from gN (by omega)]
   simp)
  rw [ll hx] at this
  exact this
 ·show s.aq ++ _ = (w.aq ++ _).map jY
  rw [h.aq,List.map_append,h.now]; rfl
 ·rcases List.mem_append.1 hc with h1 | h1
  ·exact h.cb c h1
  ·rw [List.mem_singleton.1 h1]; exact ⟨x.bk,hx,rfl⟩
 ·show ((w.aq ++ _).map (·.num)).Nodup
  rw [List.map_append,List.nodup_append]
  exact ⟨h.oC,by simp,fun a ha b hb=>by simp at hb; rw [hb]; rintro rfl; exact hn ha⟩
 ·show PL (w.ai.map qs) ((w.aq ++ [(⟨x.conn,x.bk,3,0,w.now,0,0,0,0,0⟩:RC)]).map eY) s.busy s.nF
  rw [LQ]
  have hp:=h.pl
  refine ⟨hp.nC,hp.iu,fun c=>?_,hp.one,hp.Rv,hp.rng,fun i j c h1 h2=>?_,hp.LO,hp.key⟩
  ·rw [<- hp.Ru c]; simp
  ·have dr:∀ k,(w.aq.map eY ++ [none])[k]? = some (some c) -> (w.aq.map eY)[k]? = some (some c):=fun k hk=>by
    rw [List.getElem?_append] at hk
    split at hk
    ·exact hk
    ·rw [List.getElem?_singleton] at hk
     split at hk <;> cases hk
   exact hp.uni i j c (dr i h1) (dr j h2)
theorem P5 {N:Nat} {w:RW} {s:IW} (h:cp N w s) (bW:∀ b,b ∈ w.ai -> b.ax.length <= 100000) (hcz:w.aq.length <= 100000) (x:Ev) (hx:x.bk < w.ai.length):SS N (qk w x) (rL s x):=by
 obtain ⟨d1,d2,d3⟩:=w6 h bW x hx
 have e1:(s.aq.map (·.num)).findIdx? (· == x.conn) = w.aq.findIdx? (fun c=>c.num == x.conn):=by
  rw [h.aq,List.map_map,List.findIdx?_map]; rfl
 unfold qk rL
 rw [e1,(h.sh hx).2]
 by_cases hm:x.call ∈ w.ai[x.bk].ax
 rotate_left
 ·rw [if_neg hm]
  cases w.aq.findIdx? (fun c=>c.num == x.conn) with
  | some i=>exact h.ss false
  | none =>
    dsimp only
    rw [d1,d3 hm]
    simp only [hm,decide_false]
    exact h.ss false
 ·rw [if_pos hm]
  cases hf:w.aq.findIdx? (fun c=>c.num == x.conn) with
  | some i =>
    rw [List.findIdx?_eq_some_iff_getElem] at hf
    obtain ⟨hi,hf,_⟩:=hf
    have:w.aq.any (fun c=>c.num == x.conn) = true:=List.any_eq_true.2 ⟨_,List.getElem_mem hi,hf⟩
    rw [if_pos this]
    exact h.ss false
  | none =>
    rw [List.findIdx?_eq_none_iff] at hf
    have:¬ w.aq.any (fun c=>c.num == x.conn) = true:=fun q=>by
     obtain ⟨c,hc,q⟩:=List.any_eq_true.1 q
     rw [hf c hc] at q; cases q
    rw [if_neg this]
    dsimp only
    rw [d1,show decide (x.call ∈ w.ai[x.bk].ax) = true by simpa using hm,if_pos (rfl:true = true)]
    obtain ⟨g1,g2,g3,g4⟩:=d2 hm
    refine ⟨rfl,?_⟩
    generalize (bd s x).1 = s1 at g1 g2 g3 g4 ⊢
    obtain ⟨w1,ja⟩:∃ w1,w.aQ x.bk { w.ai[x.bk] with ax:=aZ w.ai[x.bk].ax x.call } = w1:=⟨_,rfl⟩
    have jI:w1.now = w.now /\ w1.aq = w.aq /\ w1.ai.length = w.ai.length:=by rw [<- ja]; exact ⟨rfl,rfl,List.length_set⟩
    rw [ja] at g1 ⊢
    have hn:x.conn ∉ w1.aq.map (·.num):=fun q=>by
     rw [jI.2.1] at q
     obtain ⟨c,hc,q⟩:=List.mem_map.1 q
     have:=hf c hc
     simp [q] at this
    have iH:x.bk < w1.ai.length:=by rw [jI.2.2]; exact hx
    have ha:=X1 g1 (by rw [jI.2.1]; exact hcz) x iH hn
    rw [<- jI.1]
    cases hy:x.yes
    ·exact ha.mono (Nat.le_succ _)
    ·refine cp.mono ?_ (Nat.le_succ _)
     show cp N { w1 with aq:=w1.aq ++ [⟨x.conn,x.bk,1,x.call,w1.now,0,0,1,0,0⟩] } (j3 (({ s1 with aq:=s1.aq ++ [(⟨x.conn,x.bk,0,s1.now,-1,0,0,3,0,0⟩:IC)],ord:=s1.ord ++ [x.conn] }:IW).aQ x.bk { s1.ai.getD x.bk gp with cJ:=cH ((s1.ai.getD x.bk gp).cJ + 1) }) s1.aq.length x)
     have hl:s1.aq.length = w1.aq.length:=by rw [g1.aq,List.length_map]
     rw [hl]
     have hbz:cu (({ s1 with aq:=s1.aq ++ [(⟨x.conn,x.bk,0,s1.now,-1,0,0,3,0,0⟩:IC)],ord:=s1.ord ++ [x.conn] }:IW).aQ x.bk { s1.ai.getD x.bk gp with cJ:=cH ((s1.ai.getD x.bk gp).cJ + 1) }).busy x.call dF = dF:=g2
     generalize (({ s1 with aq:=s1.aq ++ [(⟨x.conn,x.bk,0,s1.now,-1,0,0,3,0,0⟩:IC)],ord:=s1.ord ++ [x.conn] }:IW).aQ x.bk { s1.ai.getD x.bk gp with cJ:=cH ((s1.ai.getD x.bk gp).cJ + 1) }) = s3 at ha hbz ⊢
     obtain ⟨w2,Rw⟩:∃ w2:RW,({ w1 with aq:=w1.aq ++ [(⟨x.conn,x.bk,3,0,w1.now,0,0,0,0,0⟩:RC)] }:RW) = w2:=⟨_,rfl⟩
     rw [Rw] at ha
     have cQ:x.bk < w2.ai.length:=by rw [<- Rw]; exact iH
     have qv:w2.aq = w1.aq ++ [(⟨x.conn,x.bk,3,0,w1.now,0,0,0,0,0⟩:RC)]:=by rw [<- Rw]
     have mf:w1.aq.length < w2.aq.length:=by rw [qv]; simp
     have vC:w2.aq[w1.aq.length] = (⟨x.conn,x.bk,3,0,w1.now,0,0,0,0,0⟩:RC):=by simp [qv]
     have ht:=uI ha x cQ mf (by rw [vC]; show (3:Int) ≠ 1; omega) (by rw [vC]; show (3:Int) ≠ 5; omega) (by rw [vC]) (.inl hbz)
     have Ij:=(ha.pl.Dk hbz (ha.dw cQ)).2
     dsimp only at Ij
     have e5:bL s3 x = s3:=by
      unfold bL
      rw [(ha.sh cQ).1]
      have:({ fQ w2.aq x.bk w2.ai[x.bk] with waits:=vV (fQ w2.aq x.bk w2.ai[x.bk]).waits x.call }:IB) = fQ w2.aq x.bk w2.ai[x.bk]:=by
       have e6:vV (fQ w2.aq x.bk w2.ai[x.bk]).waits x.call = w2.ai[x.bk].waits:=w7 Ij
       rw [e6]; rfl
      rw [this]
      have e7:=ha.bk x.bk _ (List.getElem?_eq_getElem cQ)
      obtain ⟨h9,qu⟩:=List.getElem?_eq_some_iff.1 e7
      rw [<- qu,ll h9]
     have e6:w2.aQ x.bk { w2.ai[x.bk] with waits:=aZ w2.ai[x.bk].waits x.call } = w2:=by
      unfold RW.aQ
      rw [w7 Ij,ll cQ]
     rw [e5,e6,vC] at ht
     have e7:w2.bh w1.aq.length { (⟨x.conn,x.bk,3,0,w1.now,0,0,0,0,0⟩:RC) with st:=1,call:=x.call,bt:=cH ((0:Int) + 1) } = { w1 with aq:=w1.aq ++ [⟨x.conn,x.bk,1,x.call,w1.now,0,0,1,0,0⟩] }:=by
      rw [<- Rw]
      unfold RW.bh
      dsimp only
      rw [List.set_append_right _ _ (Nat.le_refl _),Nat.sub_self]
      rfl
     rw [<- e7]
     exact ht
theorem P6 {N:Nat} {w:RW} {s:IW} (h:cp N w s) (x:Ev) (hx:x.bk < w.ai.length):SS N (match kI w x with | none=>(w,false) | some i=>(w.bh i { w.aq.getD i yF with st:=if x.yes then 3 else 4,call:=0 },true)) (rE s x):=by
 unfold rE
 rw [h.own]
 cases ho:kI w x with
 | none=>exact h.ss false
 | some i =>
   obtain ⟨hi,t1,t2,t3,t4⟩:=yz ho
   dsimp only
   rw [(h.cn hi).1,(h.cn hi).2]
   refine ⟨rfl,cp.mono ?_ (Nat.le_succ _)⟩
   obtain ⟨st',iB⟩:∃ st':Int,(if x.yes then (3:Int) else 4) = st':=⟨_,rfl⟩
   have P7:st' ≠ 1 /\ st' ≠ 5:=by rw [<- iB]; cases x.yes <;> simp
   dsimp only
   rw [iB]
   obtain ⟨c',ec⟩:∃ c':RC,({ w.aq[i] with st:=st',call:=0 }:RC) = c':=⟨_,rfl⟩
   have q1:c'.num = w.aq[i].num /\ c'.bk = w.aq[i].bk /\ c'.st = st':=by rw [<- ec]; exact ⟨rfl,rfl,rfl⟩
   have q2:({ jY w.aq[i] with st:=st',call:=0 }:IC) = jY c':=by
    rw [<- ec]
    unfold jY
    dsimp only
    rw [if_neg (by omega),if_neg P7.2]
   rw [ec,q2]
   have LQ:(w.aq.map eY)[i]? = some (some x.call):=by
    rw [List.getElem?_map,List.getElem?_eq_getElem hi]
    show some (eY w.aq[i]) = _
    unfold eY; rw [if_pos t3,t4]
   obtain ⟨l1,l2,l3⟩:=P4 LQ h.pl.uni
   have hY:(w.aq.set i c').map eY = (w.aq.map eY).set i none:=by rw [List.map_set]; congr 1; unfold eY; rw [if_neg (by rw [q1.2.2]; exact P7.1)]
   have qV:∀ j,gm (w.aq.set i c') j = gm w.aq j:=fun j=>Ap hi c' q1.2.1 (by omega) (by rw [q1.2.2]; exact P7.2) j
   have rX:cu s.busy x.call dF = Rt:=by
    have:=(h.pl.Ru x.call).1 (List.mem_iff_getElem?.2 ⟨i,LQ⟩)
    rcases h.pl.one x.call with e | e | e | e <;> rw [e] at this <;> first | exact e | cases this
   refine h.move x.call hx w.ai[x.bk] (h.vn _ (List.getElem_mem hx)) (w.aq.set i c') (ib':=fQ w.aq x.bk w.ai[x.bk]) (by unfold fQ; rw [qV]) (q:=dF) (by simp) (.inr (.inl rX)) (fun c hc=>⟨Iff.rfl,Iff.rfl⟩) ⟨?_,?_⟩ (h.pl.LO _ (List.mem_of_getElem? (h.dw hx))) (fun j _=>qV j) ?_ ?_ ?_ ?_ ?_ s.ord ?_ ?_
   ·refine ⟨fun m=>?_,fun m=>by cases m⟩
    have:=(h.pl.isD (h.dw hx) m).1
    rw [rX] at this; cases this
   ·refine ⟨fun m=>?_,fun m=>by cases m⟩
    have:=(h.pl.isW (h.dw hx) m).1
    rw [rX] at this; cases this
   ·rw [nM hi q1.1]; exact h.oC
   ·intro c hc
    rcases List.mem_or_eq_of_mem_set hc with h6 | h6
    ·exact h.cb c h6
    ·rw [h6,q1.2.1]; exact h.cb _ (List.getElem_mem hi)
   ·rw [hY]; exact l1
   ·rw [hY]; exact ⟨fun m=>absurd m l2,fun m=>by cases m⟩
   ·rw [hY]; exact l3
   ·rw [ll hx]; rfl
   ·rw [gR]
    have e7:=h.bk x.bk _ (List.getElem?_eq_getElem hx)
    obtain ⟨h9,qu⟩:=List.getElem?_eq_some_iff.1 e7
    rw [<- qu,ll h9]
    unfold IW.bh
    dsimp only
    rw [h.aq,List.map_set]
theorem P8 {N:Nat} {w:RW} {s:IW} (h:cp N w s) (x:Ev) (hk:x.kind = 10):SS N (sf w x,true) (rG s x):=by
 unfold sf rG
 rw [h.own]
 cases ho:kI w x with
 | none=>exact (h.fault 4).ss true
 | some i =>
   obtain ⟨hi,t1,t2,t3,t4⟩:=yz ho
   dsimp only
   rw [(h.cn hi).1,(h.cn hi).2,if_pos hk]
   refine ⟨rfl,cp.mono ?_ (Nat.le_succ _)⟩
   have h1:=h.aj (decide (x.kf ≠ x.call)) 6
   obtain ⟨_,f2,_⟩:=Pu w (decide (x.kf ≠ x.call)) 6
   refine h1.LP (by rw [f2]; exact hi) { w.aq[i] with read:=cH (w.aq[i].read + x.n) } ?_ ?_ ?_ ?_
   ·rw [f2,(h.cn hi).2]; exact ⟨rfl,rfl,rfl⟩
   ·rw [f2,(h.cn hi).2]; omega
   ·show w.aq[i].st ≠ 5; omega
   ·rfl
theorem P9 {N:Nat} {w:RW} {s:IW} (h:cp N w s) (x:Ev) (hk:x.kind = 9):SS N (sf w x,true) (rH s x):=by
 unfold sf rH
 rw [h.own,h.find]
 cases ho:kI w x with
 | none=>exact (h.fault 4).ss true
 | some i =>
   obtain ⟨hi,t1,t2,t3,t4⟩:=yz ho
   dsimp only
   rw [if_neg (by omega)]
   cases hf:dy w x.call with
   | none=>exact h.ss true
   | some j =>
     obtain ⟨hj,_⟩:=nL hf
     have hpk:=h.pk _ (List.getElem_mem hj)
     dsimp only
     rw [(h.cn hi).1,(h.cn hi).2,(h.rq hj).1,(h.rq hj).2]
     refine ⟨rfl,?_⟩
     have e1:(!(oa w.aE[j]).2.idem && decide (0 < (oa w.aE[j]).2.cj) && decide ((oa w.aE[j]).2.cj < (oa w.aE[j]).2.aO)) = (!w.aE[j].idem && decide (0 < w.aE[j].cj) && decide (w.aE[j].cj < w.aE[j].aO)):=rfl
     rw [e1]
     generalize (!w.aE[j].idem && decide (0 < w.aE[j].cj) && decide (w.aE[j].cj < w.aE[j].aO)) = f10
     have h1:=h.aj f10 10
     obtain ⟨_,f2,f3,_⟩:=Pu w f10 10
     have h2:=h1.vX (i:=j) (by rw [f3]; exact hj) { w.aE[j] with cj:=w.aE[j].aO } (by rw [f3,(h.rq hj).2]) (by show 0 <= w.aE[j].aO /\ w.aE[j].aO <= _; omega) (ir':={ (oa w.aE[j]).2 with cj:=(oa w.aE[j]).2.aO }) rfl
     have f4:((w.aj f10 10).dU j { w.aE[j] with cj:=w.aE[j].aO }).aq = w.aq:=f2
     refine h2.LP (by rw [f4]; exact hi) { w.aq[i] with cj:=cH (w.aq[i].cj + x.n) } ?_ ?_ ?_ ?_
     ·rw [f4,(h.cn hi).2]; exact ⟨rfl,rfl,rfl⟩
     ·rw [f4,(h.cn hi).2]; omega
     ·show w.aq[i].st ≠ 5; omega
     ·rfl
theorem PA {N:Nat} {w:RW} {s:IW} (h:cp N w s) (x:Ev) (hk:x.kind = 12):SS N (lV w x) (rF s x):=by
 unfold lV rF
 rw [h.there]
 cases ht:eX w x.conn x.bk with
 | none=>exact (h.fault 4).ss true
 | some i =>
   obtain ⟨hi,t1,t2,t3⟩:=lk ht
   dsimp only
   rw [(h.cn hi).1,(h.cn hi).2]
   show SS N _ (if w.aq[i].st = 4 then _ else if w.aq[i].st = 1 then _ else if w.aq[i].st = 2 then _ else _)
   by_cases c4:w.aq[i].st = 4
   ·rw [if_pos ⟨hk,c4⟩,if_pos c4]; exact (h.fault 4).ss true
   rw [if_neg (fun q=>c4 q.2),if_neg c4,if_neg (by omega)]
   by_cases c1:w.aq[i].st = 1
   ·rw [if_pos c1,if_pos c1]; exact (h.fault 1).ss true
   rw [if_neg c1,if_neg c1]
   by_cases c2:w.aq[i].st = 2
   ·rw [if_pos c2,if_pos c2]; exact h.ss false
   rw [if_neg c2,if_neg c2]
   refine ⟨rfl,cp.mono ?_ (Nat.le_succ _)⟩
   refine h.bh hi { w.aq[i] with st:=2,since:=w.now } rfl rfl ?_ t3 (by show (2:Int) ≠ 5; omega) ?_
   ·unfold eY
    rw [if_neg c1,if_neg (by show ¬ (2:Int) = 1; omega)]
   ·unfold jY
    dsimp only
    rw [if_neg t3,if_neg (by omega),h.now]
theorem Kt {N:Nat} {w:RW} {s:IW} (h:cp N w s) (hcz:w.aq.length <= 100000) (x:Ev) (hx:x.bk < w.ai.length) (hk:x.kind = 13):SS N (lV w x) (mZ s x):=by
 unfold lV mZ
 rw [h.there]
 cases ht:eX w x.conn x.bk with
 | none=>exact (h.fault 4).ss true
 | some i =>
   obtain ⟨hi,t1,t2,t3⟩:=lk ht
   dsimp only
   rw [(h.cn hi).1,(h.cn hi).2,(h.sh hx).1,if_neg (by omega),if_pos hk]
   show SS N _ (if w.aq[i].st = 1 then _ else _)
   by_cases c1:w.aq[i].st = 1
   ·rw [if_pos c1,if_pos c1]; exact h.ss false
   rw [if_neg c1,if_neg c1]
   refine ⟨rfl,cp.mono ?_ (Nat.le_succ _)⟩
   have jj:=BP w.aq x.bk
   obtain ⟨c',ec⟩:∃ c':RC,({ w.aq[i] with st:=5,fin:=w.now }:RC) = c':=⟨_,rfl⟩
   have q1:c'.num = w.aq[i].num /\ c'.bk = w.aq[i].bk /\ c'.st = 5:=by rw [<- ec]; exact ⟨rfl,rfl,rfl⟩
   have q2:({ jY w.aq[i] with st:=5,gone:=s.now }:IC) = jY c':=by
    rw [<- ec,h.now]
    unfold jY
    dsimp only
    rw [if_pos rfl]
   show cp N (w.bh i { w.aq[i] with st:=5,fin:=w.now }) _
   rw [ec,q2]
   have qV:∀ j,(gm (w.aq.set i c') j:Int) = gm w.aq j - if x.bk = j then 1 else 0:=fun j=>by
    have:=y2 hi c' j
    rw [if_neg (c:=c'.bk = (j:Int) /\ c'.st ≠ 5) (fun q=>q.2 q1.2.2)] at this
    by_cases e:x.bk = j
    ·rw [if_pos ⟨by omega,t3⟩] at this
     rw [if_pos e]; omega
    ·rw [if_neg (fun q=>e (by have:=q.1; omega))] at this
     rw [if_neg e]; omega
   have LQ:(w.aq.set i c').map eY = w.aq.map eY:=H8 hi (by unfold eY; rw [if_neg c1,if_neg (by omega)])
   refine ⟨h.aN,h.most,h.now,h.stop,h.ev,h.aI,?_,?_,?_,h.aE,h.pk,h.vn,fun c hc=>?_,?_,?_⟩
   ·unfold IW.aQ IW.bh RW.bh
    dsimp only
    rw [List.length_set,h.len]
   ·have:=y1 h hx (w.aq.set i c') (fun j hj=>by have:=qV j; rw [if_neg (fun e=>hj e.symm)] at this; omega) w.ai[x.bk] (ib':={ fQ w.aq x.bk w.ai[x.bk] with cJ:=cH ((fQ w.aq x.bk w.ai[x.bk]).cJ - 1) }) (by
     unfold fQ
     dsimp only
     have h3:=qV x.bk
     rw [if_pos rfl] at h3
     rw [show cH ((gm w.aq x.bk:Int) - 1) = _ from gN (by omega),h3])
    rw [ll hx] at this
    exact this
   ·show s.aq.set i (jY c') = (w.aq.set i c').map jY
    rw [h.aq,List.map_set]
   ·rcases List.mem_or_eq_of_mem_set hc with h6 | h6
    ·exact h.cb c h6
    ·rw [h6,q1.2.1]; exact h.cb _ (List.getElem_mem hi)
   ·show ((w.aq.set i c').map (·.num)).Nodup
    rw [nM hi q1.1]; exact h.oC
   ·show PL (w.ai.map qs) ((w.aq.set i c').map eY) s.busy s.nF
    rw [LQ]; exact h.pl
theorem PB {N:Nat} {w:RW} {s:IW} (h:cp N w s) (x:Ev) (hx:x.bk < w.ai.length) (hk:x.kind = 3):SS N (eC w x) (qe s x):=by
 unfold eC
 rw [if_pos hk]
 exact P0 h x hx
theorem Ku {N:Nat} {w:RW} {s:IW} (h:cp N w s) (x:Ev) (hx:x.bk < w.ai.length) (hk:x.kind = 4):SS N (eC w x) (mY s x):=by
 unfold eC
 rw [if_neg (by omega),if_pos hk]
 exact Kr h x hx
theorem E7 {N:Nat} {w:RW} {s:IW} (h:cp N w s) (bW:∀ b,b ∈ w.ai -> b.ax.length <= 100000) (x:Ev) (hx:x.bk < w.ai.length) (hk:x.kind = 6):SS N (eC w x) (bd s x):=by
 unfold eC
 rw [if_neg (by omega),if_neg (by omega),if_neg (by omega)]
 exact E6 h bW x hx
theorem X2 {N:Nat} {w:RW} {s:IW} (h:cp N w s) (x:Ev) (hk:x.kind = 17):SS N (fX w x) (yh s x):=by
 unfold fX
 rw [if_pos hk]
 exact X0 h x
theorem PD {N:Nat} {w:RW} {s:IW} (h:cp N w s) (x:Ev) (hk:x.kind = 18):SS N (fX w x) (tX s):=by
 unfold fX
 rw [if_neg (by omega),if_pos hk]
 exact Py h
theorem PE {N:Nat} {w:RW} {s:IW} (h:cp N w s) (x:Ev) (hk:x.kind = 19):SS N (fX w x) (qi s):=by
 unfold fX
 rw [if_neg (by omega),if_neg (by omega)]
 exact Pz h
theorem HD {N:Nat} {w:RW} {s:IW} (h:cp N w s) (hN:N <= 100000) (bW:∀ b,b ∈ w.ai -> b.ax.length <= 100000) (hcz:w.aq.length <= 100000) (x:Ev) (ee:1 <= x.kind) (fJ:x.kind <= 19) (hb:2 <= x.kind -> x.kind <= 16 -> x.bk < w.ai.length) (hc:x.kind = 2 -> 1 <= x.call):SS N (j4 w x) (eT s x):=by
 obtain ⟨n,hn⟩:∃ n:Nat,x.kind = n:=⟨x.kind.toNat,by omega⟩
 unfold j4 eT
 rw [show x.kind.toNat = n by omega]
 rcases (show n = 1 \/ n = 2 \/ n = 3 \/ n = 4 \/ n = 5 \/ n = 6 \/ n = 7 \/ n = 8 \/ n = 9 \/ n = 10 \/ n = 11 \/ n = 12 \/ n = 13 \/ n = 14 \/ n = 15 \/ n = 16 \/ n = 17 \/ n = 18 \/ n = 19 by omega) with rfl | rfl | rfl | rfl | rfl | rfl | rfl | rfl | rfl | rfl | rfl | rfl | rfl | rfl | rfl | rfl | rfl | rfl | rfl
 all_goals simp only [hn]
 ·exact Kq h x
 ·exact Px h hN x (hb (by omega) (by omega)) (hc (by omega))
 ·exact PB h x (hb (by omega) (by omega)) (by omega)
 ·exact Ku h x (hb (by omega) (by omega)) (by omega)
 ·exact P2 h bW hcz x (hb (by omega) (by omega)) hn
 ·exact E7 h bW x (hb (by omega) (by omega)) (by omega)
 ·exact P5 h bW hcz x (hb (by omega) (by omega))
 ·exact Ks h x (hb (by omega) (by omega))
 ·exact P9 h x hn
 ·exact P8 h x hn
 ·exact P6 h x (hb (by omega) (by omega))
 ·exact PA h x hn
 ·exact Kt h hcz x (hb (by omega) (by omega)) hn
 ·exact Pv h x (hb (by omega) (by omega))
 ·exact Pw h x (hb (by omega) (by omega))
 ·exact H9 h x (hb (by omega) (by omega))
 ·exact X2 h x (by omega)
 ·exact PD h x (by omega)
 ·exact PE h x (by omega)
def iy (L:List eR) (most:Int) (l:List Ex):RW:=⟨L,most,l,0,List.replicate L.length gD,[],[],false,0,[]⟩
theorem cp.pre {N:Nat} {w:RW} {s:IW} (h:cp N w s) (k:Nat) (x:Ev):cp N (if x.t < w.now then ({ w with ev:=(k:Int) }:RW).fault 12 else { ({ w with ev:=(k:Int) }:RW) with now:=x.t }) (fo { s with at_:=(k:Int) } x):=by
 unfold fo
 show cp N _ { IW.aj { s with at_:=(k:Int) } (decide (x.t < s.now)) 12 with now:=if s.now < x.t then x.t else s.now }
 rw [h.now]
 by_cases c:x.t < w.now
 ·rw [if_pos c,if_neg (by omega),decide_eq_true c]
  exact ⟨h.aN,h.most,rfl,h.stop,rfl,by show s.aI ++ _ = w.aI ++ _; rw [h.aI],h.len,h.bk,h.aq,h.aE,h.pk,h.vn,h.cb,h.oC,h.pl⟩
 ·have e:(if w.now < x.t then x.t else w.now) = x.t:=by split <;> omega
  rw [if_neg c,e,decide_eq_false c]
  exact ⟨h.aN,h.most,rfl,h.stop,rfl,h.aI,h.len,h.bk,h.aq,h.aE,h.pk,h.vn,h.cb,h.oC,h.pl⟩
theorem E8 {N:Nat} {w:RW} {s:IW} (h:cp N w s) (hN:N <= 100000) (bW:∀ b,b ∈ w.ai -> b.ax.length <= 100000) (hcz:w.aq.length <= 100000) (k:Nat) (x:Ev) (ee:1 <= x.kind) (fJ:x.kind <= 19) (hb:2 <= x.kind -> x.kind <= 16 -> x.bk < w.ai.length) (hc:x.kind = 2 -> 1 <= x.call):cp (N + 1) (lM w k x) (il s k x):=by
 have h1:=h.pre k x
 unfold lM il
 dsimp only
 have e1:(if x.t < w.now then ({ w with ev:=(k:Int) }:RW).fault 12 else { ({ w with ev:=(k:Int) }:RW) with now:=x.t }).ai = w.ai /\ (if x.t < w.now then ({ w with ev:=(k:Int) }:RW).fault 12 else { ({ w with ev:=(k:Int) }:RW) with now:=x.t }).aq = w.aq:=by split <;> exact ⟨rfl,rfl⟩
 generalize (if x.t < w.now then ({ w with ev:=(k:Int) }:RW).fault 12 else { ({ w with ev:=(k:Int) }:RW) with now:=x.t }) = w1 at h1 e1 ⊢
 generalize fo { s with at_:=(k:Int) } x = s1 at h1 ⊢
 obtain ⟨h2,h3⟩:=HD h1 hN (by rw [e1.1]; exact bW) (by rw [e1.2]; exact hcz) x ee fJ (by rw [e1.1]; exact hb) hc
 generalize j4 w1 x = z at h2 h3 ⊢
 generalize eT s1 x = z' at h2 h3 ⊢
 unfold uk
 rw [h2]
 have h4:cp (N + 1) (if z.2 = true then z.1 else z.1.fault 13) (z'.1.aj (!z.2) 13):=by
  cases z.2
  ·exact h3.fault 13
  ·exact h3
 generalize (if z.2 = true then z.1 else z.1.fault 13) = w3 at h4 ⊢
 dsimp only
 generalize z'.1.aj (!z.2) 13 = s3 at h4 ⊢
 exact ⟨h4.aN,h4.most,h4.now,h4.stop,h4.ev,by dsimp only; rw [h4.aI,h.aI],h4.len,h4.bk,h4.aq,h4.aE,h4.pk,h4.vn,h4.cb,h4.oC,h4.pl⟩
theorem Kv (L:List eR) (most:Int) (l:List Ex):cp 0 (iy L most l) (fp L most l):=by
 have e:∀ (i:Nat) b,((List.replicate L.length gD).map qs)[i]? = some b -> b = ([],[]):=fun i b hb=>by
  rw [List.map_replicate] at hb
  obtain ⟨hi,hb⟩:=List.getElem?_eq_some_iff.1 hb
  rw [<- hb,List.getElem_replicate]; rfl
 refine ⟨rfl,rfl,rfl,rfl,rfl,rfl,by simp [fp,iy],fun i b hb=>?_,rfl,rfl,fun r hr=>by simp [iy] at hr,fun b hb=>?_,fun c hc=>by simp [iy] at hc,List.nodup_nil,?_⟩
 ·unfold iy at hb
  unfold fp iy
  dsimp only at hb ⊢
  obtain ⟨hi,hb⟩:=List.getElem?_eq_some_iff.1 hb
  rw [List.length_replicate] at hi
  rw [<- hb,List.getElem_replicate,List.getElem?_replicate,if_pos hi]; rfl
 ·rw [(List.mem_replicate.1 hb).2]; exact Int.le_refl _
 ·refine ⟨fun c i b hb=>?_,fun c i b hb=>?_,fun c=>?_,fun c=>.inl rfl,fun c=>?_,fun c hc=>?_,fun i j c h1=>?_,fun b hb=>?_,List.nodup_nil⟩
  ·rw [e i b hb]
   exact ⟨fun m=>by simp at m,fun m=>by cases m.1⟩
  ·rw [e i b hb]
   exact ⟨fun m=>by simp at m,fun m=>by cases m.1⟩
  ·exact ⟨fun m=>by simp [iy] at m,fun m=>by cases m⟩
  ·exact ⟨fun m=>by simp [fp] at m,fun m=>absurd rfl m⟩
  ·rcases hc with hc | hc <;> cases hc
  ·simp [iy] at h1
  ·obtain ⟨i,hi⟩:=List.mem_iff_getElem?.1 hb
   rw [e i b hi]; exact List.nodup_nil
theorem w8 (L:List eR) (most:Int) (l:List Ex):Gd l L 0 (iy L most l):=by
 refine ⟨rfl,rfl,by simp [iy],by simp [iy],by simp [iy],by simp [iy],fun b hb=>?_,⟨fun c hc=>by simp [iy] at hc,fun b hb n hn=>?_,fun b hb n hn=>?_⟩⟩
 ·rw [(List.mem_replicate.1 hb).2]; exact ⟨Nat.le_refl _,Nat.le_refl _⟩
 ·rw [(List.mem_replicate.1 hb).2] at hn; simp [gD] at hn
 ·rw [(List.mem_replicate.1 hb).2] at hn; simp [gD] at hn
theorem E9 {s:RW} {l:List Ex} {k:Nat} {e:Ex} (h:l[k]? = some e):runN s l (k + 1) = lM (runN s l k) k e.ev:=by show (match l[k]? with | some e=>_ | none=>_) = _; rw [h]
theorem Aq (L:List eR) (most:Int) (l:List Ex) (hl:l.length <= 100000) (hv:∀ e,e ∈ l -> VE L.length e) (hc:∀ e,e ∈ l -> e.ev.kind = 2 -> 1 <= e.ev.call):∀ k,k <= l.length -> cp k (runN (iy L most l) l k) (eF (fp L most l) l k)
 | 0,_=>Kv L most l
 | k + 1,hk=>by
   have ih:=Aq L most l hl hv hc k (by omega)
   have hg:=qq (w8 L most l) hv k
   have he:l[k]? = some l[k]:=List.getElem?_eq_getElem (by omega)
   rw [E9 he,jK he]
   have hm:l[k] ∈ l:=List.getElem_mem _
   obtain ⟨v1,v2,v3⟩:=hv _ hm
   exact E8 ih (by omega) (fun b hb=>by have:=(hg.Hp b hb).2; omega) (by have:=hg.aq; omega) k _ v1 v2 (fun a b=>by rw [hg.len]; exact (v3 a b).2) (hc _ hm)
theorem HE {nb:Nat} {e:Ex} (h:dY nb e = false) (hk:e.ev.kind = 2):1 <= e.ev.call:=by
 unfold dY at h
 rw [hk] at h
 simp only [Bool.or_eq_false_iff] at h
 have h3:=h.2
 unfold yp at h3
 simp only [Bool.or_eq_false_iff] at h3
 have h4:=h3.1.1.1.1.2
 have e:(nd (Int.toNat 2)).call = true:=rfl
 rw [e] at h4
 simp at h4
 omega
theorem EA {L:List eR} {most:Int} {l:List Ex} (h:(bu L most l).2 = 0) (hn:∀ e,e ∈ l -> NE e):cp l.length (runN (iy L most l) l l.length) (eF (fp L most l) l l.length):=by
 obtain ⟨h1,h2,h3,h4,h5,h6,h7⟩:=im h
 exact Aq L most l (by omega) (fun e he=>uz (h7 e he) (hn e he)) (fun e he hk=>HE (h7 e he) hk) l.length (Nat.le_refl _)
end Go.Proofs
