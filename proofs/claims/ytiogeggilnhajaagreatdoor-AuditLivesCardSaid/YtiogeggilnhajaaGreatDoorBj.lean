/- Texts of the proof, put together: UP, VS, VT, VU, VV, VW, VX, VY, XA, XD, XC, XE, XF, XG, XH. -/
import Derived.Test.YtiogeggilnhajaaGreatDoorBi
import Derived.Test.YtiogeggilnhajaaGreatDoorBe
import Derived.Deep.RegionLaw
import Derived.Below
import Derived.Test.YtiogeggilnhajaaGreatDoorBh
import Derived.Shelf.Strings.Builder1
import Derived.Shelf.RegionOpenPlain
import Derived.Shelf.Strings.Fields
import Derived.Shelf.Strconv.Itoa4
import Derived.Lib.ItoaLen
set_option maxHeartbeats 8000000
set_option linter.unusedSimpArgs false
set_option linter.unusedVariables false
set_option maxRecDepth 100000
namespace Go.Proofs
open Go Go.Pl Tryz
def l5 (w : RW) (i : Nat) (x : Ev) : RW :=
 let w0 : RW:={ w with ev:=(i : Int) }
 let w1:=if x.t < w.now then w0.fault 12 else { w0 with now:=x.t }
 let s:=js w1 x
 let w3:=if s.2 then s.1 else s.1.fault 13
 { w3 with aG:=w3.aG.take w.aG.length ++ dF (w3.aG.drop w.aG.length) }
def runN (w : RW) (l : List Ex) : Nat -> RW
 | 0=>w
 | k + 1=>match l[k]? with
   | some e=>l5 (runN w l k) k e.ev
   | none=>runN w l k
def VE (nb : Nat) (e : Ex) : Prop:=1 <= e.ev.kind /\ e.ev.kind <= 19 /\ (2 <= e.ev.kind -> e.ev.kind <= 16 -> e.b = e.ev.bk /\ e.ev.bk < nb)
structure Gd (l : List Ex) (L : List fb) (k : Nat) (w : RW) : Prop where
 ky : w.ky = l
 aL : w.aL = L
 len : w.ah.length = L.length
 aG : w.aG.length <= 5 * k
 ak : w.ak.length <= k
 aD : w.aD.length <= k
 GH : ∀ b,b ∈ w.ah -> b.waits.length <= k /\ b.au.length <= k
 oS : E4 w
theorem zJ {l l' : List (Int × Int)} (h : l <+: l') : (l'.take l.length ++ dF (l'.drop l.length)).length = l'.length:=by
 have:=h.length_le
 rw [List.length_append,kN,List.length_take,List.length_drop]
 omega
theorem Gd.ev {l : List Ex} {L : List fb} {k : Nat} {w : RW} (h : Gd l L k w) (i : Int) : Gd l L k { w with ev:=i }:=⟨h.ky,h.aL,h.len,h.aG,h.ak,h.aD,h.GH,⟨h.oS.c,h.oS.d,h.oS.q⟩⟩
theorem Bk {l : List Ex} {L : List fb} {k : Nat} {w : RW} (h : Gd l L k w) (i : Nat) (e : Ex) (hv : VE L.length e) : Gd l L (k + 1) (l5 w i e.ev):=by
 have h0 : dZ 1 0 0 0 w (if e.ev.t < w.now then ({ w with ev:=(i : Int) } : RW).fault 12 else { w with ev:=(i : Int),now:=e.ev.t }):=by
  split
  ·exact ⟨rfl,rfl,rfl,rfl,by simp [RW.fault],Nat.le_refl _,Nat.le_refl _,fun m h=>h,fun n hn=>hn,fun h=>⟨h.c,h.d,h.q⟩,by simp [RW.fault]⟩
  ·exact ⟨rfl,rfl,rfl,rfl,Nat.le_add_right _ _,Nat.le_refl _,Nat.le_refl _,fun m h=>h,fun n hn=>hn,fun h=>⟨h.c,h.d,h.q⟩,List.prefix_rfl⟩
 unfold l5
 dsimp only
 generalize (if e.ev.t < w.now then ({ w with ev:=(i : Int) } : RW).fault 12 else { w with ev:=(i : Int),now:=e.ev.t }) = w1 at *
 have h1:=zI w1 e.ev (fun a b=>by rw [h0.len,h.len]; exact (hv.2.2 a b).2) (h0.oS h.oS)
 generalize js w1 e.ev = s at *
 have h2 : dZ 1 0 0 0 s.1 (if s.2 then s.1 else s.1.fault 13):=by
  split
  ·exact (dZ.refl _).le (by omega) (by omega) (by omega) (by omega)
  ·exact dZ.fault _ _
 generalize (if s.2 then s.1 else s.1.fault 13) = w3 at *
 have hh:=(h0.trans h1).trans h2
 have hp:=zJ hh.pre
 have hb:=hh.oS h.oS
 exact ⟨hh.ky.trans h.ky,hh.aL.trans h.aL,hh.len.trans h.len,by have:=hh.aG; have:=h.aG; dsimp only; rw [hp]; omega,by have:=hh.ak; have:=h.ak; dsimp only; omega,by have:=hh.aD; have:=h.aD; dsimp only; omega,fun b hb=>by have:=hh.GH k h.GH b hb; omega,⟨hb.c,hb.d,hb.q⟩⟩
theorem pN {l : List Ex} {L : List fb} {w : RW} (h : Gd l L 0 w) (hv : ∀ e,e ∈ l -> VE L.length e) : ∀ k,Gd l L k (runN w l k)
 | 0=>h
 | k + 1=>by
   have ih:=pN h hv k
   unfold runN
   split
   ·rename_i e he
    exact Bk ih k e (hv e (List.mem_of_getElem? he))
   ·exact ⟨ih.ky,ih.aL,ih.len,by have:=ih.aG; omega,by have:=ih.ak; omega,by have:=ih.aD; omega,fun b hb=>by have:=ih.GH b hb; omega,ih.oS⟩
theorem Lj {aC bx : aa} {n : RN} {w : RW} (h : WR aC n w bx) {l : List Ex} {L : List fb} (hg : Gd l L 0 w) (hv : ∀ e,e ∈ l -> VE L.length e) (hl : l.length <= 2000) :
 aw prog 40 [.ptr n.p 10 0 0] bx (pH aC n.p (runN w l l.length)):=by
 refine Vb fun hf=>?_
 simp [go_sem,C40,hf]
 refine ji (ι:=RN × aa) l.length (fun k p=>p.1.p = n.p /\ WR aC p.1 (runN w l k) p.2) (fun k p=>⟨55,bR [(0,.ptr n.p 10 0 0),(2,.int .i64 k)],p.2⟩) (n,bx) ⟨rfl,h⟩ (al (by simp [go_sem])) (fun k p hk hJ N hN=>?_) (fun p hJ N=>?_)
 ·obtain ⟨n1,bM⟩:=p
  obtain ⟨hp,h1⟩:=hJ
  dsimp only at hp h1 ⊢
  have sQ:=pN hg hv k
  have he : l[k]? = some l[k]:=List.getElem?_eq_getElem hk
  have Bl:=hv _ (List.getElem_mem hk)
  have hz : runN w l (k + 1) = l5 (runN w l k) k l[k].ev:=by
   rw [runN,he]
  rw [hz] at hN
  generalize runN w l k = w1 at *
  have bg:=h1.fin
  have aq:=h1.row
  unfold gu at aq
  rw [sQ.ky] at aq
  rw [<- hp]
  have h2 : WR aC n1 { w1 with ev:=(k : Int) } (aA bM n1.p (some (bI.row sc 10 [V.agg [V.sl 4 (w1.aL.map bT),V.int .i64 w1.most,V.sl 8 (l.map fY),V.int .i64 w1.now,V.own n1.bb 5 0 w1.ah.length,n1.cv,n1.rv,V.bool w1.stop,V.int .i64 k,n1.fv]]))):=by
   have:=h1.world { w1 with ev:=(k : Int) } rfl rfl rfl rfl
   unfold gu at this
   simp only [iI] at this
   rw [<- sQ.ky]
   exact this
  simp [go_sem,FN,bg,aq,hk,fY,dL,iI]
  generalize (aA bM n1.p (some (bI.row sc 10 [V.agg [V.sl 4 (w1.aL.map bT),V.int .i64 w1.most,V.sl 8 (l.map fY),V.int .i64 w1.now,V.own n1.bb 5 0 w1.ah.length,n1.cv,n1.rv,V.bool w1.stop,V.int .i64 k,n1.fv]]))) = bx2 at *
  intro b hb
  have da:=h2.fin
  have fH:=h2.row
  unfold gu at fH
  simp only [] at fH
  rw [sQ.ky] at fH
  rw [tm hb]
  have hlen:=fun bx3=>fP (bx2:=bx3) (t:=31) h2.aG vh
  simp [go_sem,h2.aG.strip,h2.aG.live] at hlen
  have evg : V.agg [V.int .i64 l[k].ev.kind,V.int .i64 l[k].b,V.int .i64 l[k].ev.t,V.int .i64 l[k].ev.call,V.int .i64 l[k].ev.conn,V.int .i64 l[k].ev.jQ,V.int .i64 l[k].ev.n,V.bool l[k].ev.yes] = dL l[k].ev l[k].b:=rfl
  have hgE:=sQ.ev (k : Int)
  have iq : ∀ (n3 : RN) (w3 : RW) (bx3 : aa),WR aC n3 w3 bx3 -> n3.p = n1.p -> dZ 1 0 0 0 { w1 with ev:=(k : Int) } w3 -> aw prog 91 [.ptr n1.p 10 0 0,dL l[k].ev l[k].b] bx3 (fo aC n1.p (js w3 l[k].ev)) /\ dZ 3 1 1 1 w3 (js w3 l[k].ev).1:=by
   intro n3 w3 bx3 h3 Oq hc
   have rG:=hc.oS hgE.oS
   have q1:=hc.aG; have q2:=hc.ak; have q3:=hc.aD
   have g1:=sQ.aG; have g2:=sQ.ak; have g3:=sQ.aD
   dsimp only at q1 q2 q3
   refine ⟨?_,zI w3 _ (fun a b=>by rw [hc.len]; dsimp only; rw [sQ.len]; exact (Bl.2.2 a b).2) rG⟩
   rw [<- Oq]
   refine Oy h3 l[k].ev l[k].b (by omega) (by omega) (by omega) (fun b hb=>by have:=hc.GH k sQ.GH b hb; omega) rG.begun Bl.1 Bl.2.1 fun a b=>?_
   obtain ⟨v1,v2⟩:=Bl.2.2 a b
   exact ⟨v1,by rw [hc.len]; dsimp only; rw [sQ.len]; exact v2,by rw [hc.aL]; dsimp only; rw [sQ.aL]; exact v2⟩
  obtain ⟨z,hz⟩ : ∃ z,l5 w1 k l[k].ev = z:=⟨_,rfl⟩
  rw [hz] at hN
  unfold l5 at hz
  dsimp only at hz
  have g1:=sQ.aG
  by_cases c1 : l[k].ev.t < w1.now
  ·rw [if_pos c1] at hz
   simp [go_sem,da,fH,hlen,h2.aG.strip,h2.aG.live,iI,c1]
   refine an (cH h2 12 (by dsimp only; omega)) ?_
   rintro r bx3 ⟨rfl,v3,h3⟩
   have h3 : WR aC { n1 with fv:=v3 } (({ w1 with ev:=(k : Int) } : RW).fault 12) bx3:=h3
   obtain ⟨n3,xF⟩ : ∃ n3,({ n1 with fv:=v3 } : RN) = n3:=⟨_,rfl⟩
   rw [xF] at h3
   have Oq : n3.p = n1.p:=by rw [<- xF]
   have Ff : dZ 1 0 0 0 { w1 with ev:=(k : Int) } (({ w1 with ev:=(k : Int) } : RW).fault 12):=dZ.fault _ _
   generalize ({ w1 with ev:=(k : Int) } : RW).fault 12 = w3 at *
   obtain ⟨cS,W3⟩:=iq n3 w3 bx3 h3 Oq Ff
   have lu:=h3.fin
   simp [go_sem,lu]
   rw [evg]
   refine an cS ?_
   have O6 : w1.aG <+: (js w3 l[k].ev).1.aG:=Ff.pre.trans W3.pre
   have tY:=W3.aG
   have O7:=Ff.aG
   dsimp only at O7
   generalize js w3 l[k].ev = S at *
   rintro r bx4 ⟨rfl,n4,Eb,h4⟩
   have nR:=h4.fin
   have r7:=O6.length_le
   cases na : S.2
   ·rw [na] at hz
    simp [go_sem,nR]
    rw [<- Eb]
    refine an (cH h4 13 (by omega)) ?_
    rintro r kd ⟨rfl,v5,h5⟩
    have pE:=h5.fin
    simp [go_sem,pE]
    refine an (sk h5 w1.aG.length (by simp; omega) (by simp; omega)) ?_
    rintro r rI ⟨rfl,n6,O8,h6⟩
    have HP:=h6.fin
    have O9 : { S.1.fault 13 with aG:=(S.1.fault 13).aG.take w1.aG.length ++ dF ((S.1.fault 13).aG.drop w1.aG.length) } = z:=by rw [<- hz]; rfl
    have h6 : WR aC n6 z rI:=by rw [<- O9]; exact h6
    have vz:=bt (k:=k) (by omega)
    simp [go_sem,HP,vz]
    exact hN _ (n6,rI) ⟨by rw [O8]; exact Eb.trans hp,h6⟩ (al (by simp [go_sem,Eb,hp]))
   ·rw [na] at hz
    simp [go_sem,nR]
    rw [<- Eb]
    refine an (sk h4 w1.aG.length (by omega) (by omega)) ?_
    rintro r rI ⟨rfl,n6,O8,h6⟩
    have HP:=h6.fin
    have O9 : { S.1 with aG:=S.1.aG.take w1.aG.length ++ dF (S.1.aG.drop w1.aG.length) } = z:=by rw [<- hz]; rfl
    have h6 : WR aC n6 z rI:=by rw [<- O9]; exact h6
    have vz:=bt (k:=k) (by omega)
    simp [go_sem,HP,vz]
    exact hN _ (n6,rI) ⟨by rw [O8]; exact Eb.trans hp,h6⟩ (al (by simp [go_sem,Eb,hp]))
  ·rw [if_neg c1] at hz
   have h3 : WR aC n1 { w1 with ev:=(k : Int),now:=l[k].ev.t } (aA bx2 n1.p (some (bI.row sc 10 [V.agg [V.sl 4 (w1.aL.map bT),V.int .i64 w1.most,V.sl 8 (l.map fY),V.int .i64 l[k].ev.t,V.own n1.bb 5 0 w1.ah.length,n1.cv,n1.rv,V.bool w1.stop,V.int .i64 k,n1.fv]]))):=by
    have:=h2.world { w1 with ev:=(k : Int),now:=l[k].ev.t } rfl rfl rfl rfl
    unfold gu at this
    simp only [iI] at this
    have e:=sQ.ky
    simp only [e] at this ⊢
    exact this
   simp [go_sem,da,fH,hlen,h2.aG.strip,h2.aG.live,iI,c1]
   generalize (aA bx2 n1.p (some (bI.row sc 10 [V.agg [V.sl 4 (w1.aL.map bT),V.int .i64 w1.most,V.sl 8 (l.map fY),V.int .i64 l[k].ev.t,V.own n1.bb 5 0 w1.ah.length,n1.cv,n1.rv,V.bool w1.stop,V.int .i64 k,n1.fv]]))) = bx3 at *
   have Oq : n1.p = n1.p:=rfl
   have Ff : dZ 1 0 0 0 { w1 with ev:=(k : Int) } { w1 with ev:=(k : Int),now:=l[k].ev.t }:=⟨rfl,rfl,rfl,rfl,Nat.le_add_right _ _,Nat.le_refl _,Nat.le_refl _,fun m h=>h,fun n hn=>hn,fun h=>⟨h.c,h.d,h.q⟩,List.prefix_rfl⟩
   generalize ({ w1 with ev:=(k : Int),now:=l[k].ev.t } : RW) = w3 at *
   obtain ⟨cS,W3⟩:=iq n1 w3 bx3 h3 Oq Ff
   have lu:=h3.fin
   rw [evg]
   refine an cS ?_
   have O6 : w1.aG <+: (js w3 l[k].ev).1.aG:=Ff.pre.trans W3.pre
   have tY:=W3.aG
   have O7:=Ff.aG
   dsimp only at O7
   generalize js w3 l[k].ev = S at *
   rintro r bx4 ⟨rfl,n4,Eb,h4⟩
   have nR:=h4.fin
   have r7:=O6.length_le
   cases na : S.2
   ·rw [na] at hz
    simp [go_sem,nR]
    rw [<- Eb]
    refine an (cH h4 13 (by omega)) ?_
    rintro r kd ⟨rfl,v5,h5⟩
    have pE:=h5.fin
    simp [go_sem,pE]
    refine an (sk h5 w1.aG.length (by simp; omega) (by simp; omega)) ?_
    rintro r rI ⟨rfl,n6,O8,h6⟩
    have HP:=h6.fin
    have O9 : { S.1.fault 13 with aG:=(S.1.fault 13).aG.take w1.aG.length ++ dF ((S.1.fault 13).aG.drop w1.aG.length) } = z:=by rw [<- hz]; rfl
    have h6 : WR aC n6 z rI:=by rw [<- O9]; exact h6
    have vz:=bt (k:=k) (by omega)
    simp [go_sem,HP,vz]
    exact hN _ (n6,rI) ⟨by rw [O8]; exact Eb.trans hp,h6⟩ (al (by simp [go_sem,Eb,hp]))
   ·rw [na] at hz
    simp [go_sem,nR]
    rw [<- Eb]
    refine an (sk h4 w1.aG.length (by omega) (by omega)) ?_
    rintro r rI ⟨rfl,n6,O8,h6⟩
    have HP:=h6.fin
    have O9 : { S.1 with aG:=S.1.aG.take w1.aG.length ++ dF (S.1.aG.drop w1.aG.length) } = z:=by rw [<- hz]; rfl
    have h6 : WR aC n6 z rI:=by rw [<- O9]; exact h6
    have vz:=bt (k:=k) (by omega)
    simp [go_sem,HP,vz]
    exact hN _ (n6,rI) ⟨by rw [O8]; exact Eb.trans hp,h6⟩ (al (by simp [go_sem,Eb,hp]))
 ·obtain ⟨n1,bM⟩:=p
  obtain ⟨hp,h1⟩:=hJ
  dsimp only at hp h1 ⊢
  have bg:=h1.fin
  have aq:=h1.row
  unfold gu at aq
  have sQ:=pN hg hv l.length
  rw [sQ.ky] at aq
  rw [<- hp]
  simp [go_sem,FN,bg,aq]
  exact aj (by simp [go_sem]) ⟨by simp [go_sem],n1,rfl,h1⟩
def ft (L : List fb) (most : Int) (l : List Ex) : IW:=⟨L,most,l,0,0,List.replicate L.length fZ,[],[],[],[],[],false,[]⟩
def ia (s : IW) (k : Nat) (x : Ev) : IW:=let s0 : IW:={ s with at_:=(k : Int) }; tD s.aG.length (eM (fc s0 x) x)
def eG (s : IW) (l : List Ex) : Nat -> IW
 | 0=>s
 | k + 1=>match l[k]? with
   | some e=>ia (eG s l k) k e.ev
   | none=>eG s l k
structure GI (l : List Ex) (L : List fb) (k : Nat) (s : IW) : Prop where
 ky : s.ky = l
 aL : s.aL = L
 len : s.ah.length = L.length
 aG : s.aG.length <= 5 * k
 ak : s.ak.length <= k
 G7 : ∀ b,b ∈ s.ah -> b.waits.length <= k
 inv : oK s
theorem OA {aC bx : aa} {ad : cQ} {s : IW} (h : WI aC ad s bx) {p : Nat} (hp : ad .w = some p) (e : Ex) (hv : VE s.ah.length e) (hL : s.aL.length = s.ah.length) (hb : s.ah.length <= 1000) (hf : s.aG.length <= 50000) (ho : s.ord.length <= 50000) (hw : ∀ b,b ∈ s.ah -> b.waits.length <= 50000) (hi : oK s) :
 aw prog (68 + e.ev.kind.toNat) [.ptr p 13 0 0,dL e.ev e.b] bx (de aC ad (eM s e.ev)):=by
 obtain ⟨h1,h2,h3⟩:=hv
 have hV : 2 <= e.ev.kind -> e.ev.kind <= 16 -> dL e.ev e.b = aX e.ev /\ e.ev.bk < s.ah.length /\ e.ev.bk < s.aL.length:=fun a b=>by
  obtain ⟨q1,q2⟩:=h3 a b
  exact ⟨by rw [q1]; rfl,q2,by omega⟩
 have lN : ∀ (hx : e.ev.bk < s.ah.length),s.ah[e.ev.bk].waits.length <= 50000:=fun hx=>hw _ (List.getElem_mem hx)
 have Fx : ∀ i,lq s e.ev = some i -> ∃ j,jS s.aD e.ev.call = some j:=fun i ho=>Option.isSome_iff_exists.1 ((pL _ _).2 (xK ho hi))
 obtain ⟨n,hn⟩ : ∃ n : Nat,e.ev.kind = n:=⟨e.ev.kind.toNat,by omega⟩
 have ht : e.ev.kind.toNat = n:=by omega
 unfold eM
 rw [ht]
 have Bm : 2 <= n -> n <= 16 -> dL e.ev e.b = aX e.ev /\ e.ev.bk < s.ah.length /\ e.ev.bk < s.aL.length:=fun a b=>hV (by omega) (by omega)
 rcases (show n = 1 \/ n = 2 \/ n = 3 \/ n = 4 \/ n = 5 \/ n = 6 \/ n = 7 \/ n = 8 \/ n = 9 \/ n = 10 \/ n = 11 \/ n = 12 \/ n = 13 \/ n = 14 \/ n = 15 \/ n = 16 \/ n = 17 \/ n = 18 \/ n = 19 by omega) with rfl | rfl | rfl | rfl | rfl | rfl | rfl | rfl | rfl | rfl | rfl | rfl | rfl | rfl | rfl | rfl | rfl | rfl | rfl
 ·exact Ju h hp e.ev e.b
 ·obtain ⟨e1,x1,x2⟩:=Bm (by decide) (by decide); rw [e1]; exact Om h hp e.ev x1 (by omega)
 ·obtain ⟨e1,x1,x2⟩:=Bm (by decide) (by decide); rw [e1]; exact Oi h hp e.ev x1 x2 (by omega) (by have:=lN x1; omega)
 ·obtain ⟨e1,x1,x2⟩:=Bm (by decide) (by decide); rw [e1]; exact Jv h hp e.ev x1 (by have:=lN x1; omega)
 ·obtain ⟨e1,x1,x2⟩:=Bm (by decide) (by decide); rw [e1]; exact Ok h hp e.ev x1 x2 (by omega) (by have:=lN x1; omega)
 ·obtain ⟨e1,x1,x2⟩:=Bm (by decide) (by decide); rw [e1]; exact DP h hp e.ev x1
 ·obtain ⟨e1,x1,x2⟩:=Bm (by decide) (by decide); rw [e1]; exact On h hp e.ev x1 (by omega)
 ·obtain ⟨e1,x1,x2⟩:=Bm (by decide) (by decide); rw [e1]; exact Jx h hp e.ev x1 x2 (by omega) (by have:=lN x1; omega)
 ·obtain ⟨e1,x1,x2⟩:=Bm (by decide) (by decide); rw [e1]; exact Oh h hp e.ev (by omega) Fx
 ·obtain ⟨e1,x1,x2⟩:=Bm (by decide) (by decide); rw [e1]; exact Og h hp e.ev (by omega)
 ·obtain ⟨e1,x1,x2⟩:=Bm (by decide) (by decide); rw [e1]; exact Oe h hp e.ev
 ·obtain ⟨e1,x1,x2⟩:=Bm (by decide) (by decide); rw [e1]; exact Of h hp e.ev (by omega)
 ·obtain ⟨e1,x1,x2⟩:=Bm (by decide) (by decide); rw [e1]; exact Jw h hp e.ev x1 (by omega)
 ·obtain ⟨e1,x1,x2⟩:=Bm (by decide) (by decide); rw [e1]; exact Ob h hp e.ev x1
 ·obtain ⟨e1,x1,x2⟩:=Bm (by decide) (by decide); rw [e1]; exact Oc h hp e.ev x1
 ·obtain ⟨e1,x1,x2⟩:=Bm (by decide) (by decide); rw [e1]; exact Gw h hp e.ev x1
 ·exact Wj h hp e.ev e.b
 ·exact Od h hp e.ev e.b
 ·exact Ot h hp e.ev e.b (by omega) hb
theorem GN (s : IW) (x : Ev) : CI [12] 0 0 s (fc s x):=by
 have h:=CI.ai s (decide (x.t < s.now)) 12
 unfold fc
 generalize s.ai (decide (x.t < s.now)) 12 = s1 at *
 exact ⟨h.ky,h.aL,h.most,h.at_,h.len,h.ak,h.G7,fun hi=>⟨(h.inv hi).ord,(h.inv hi).nU,(h.inv hi).oS,(h.inv hi).CC⟩,h.aG⟩
theorem tG (s : IW) (k : Nat) (x : Ev) (hi : oK s) : ∃ E : List Int,E.Nodup /\ (∀ k,k ∈ E -> 1 <= k /\ k <= 13) /\ E.length <= 5 /\ (ia s k x).aG = s.aG ++ dF (E.map fun q=>(q,(k : Int))) /\ oK (ia s k x) /\ (ia s k x).ky = s.ky /\ (ia s k x).aL = s.aL /\ (ia s k x).most = s.most /\ (ia s k x).ah.length = s.ah.length /\ (ia s k x).ak.length <= s.ak.length + 1 /\ (∀ m,(∀ b,b ∈ s.ah -> b.waits.length <= m) -> ∀ b,b ∈ (ia s k x).ah -> b.waits.length <= m + 1):=by
 obtain ⟨s0,BA⟩ : ∃ s0 : IW,({ s with at_:=(k : Int) } : IW) = s0:=⟨_,rfl⟩
 have W4 : oK s0:=by rw [<- BA]; exact ⟨hi.ord,hi.nU,hi.oS,hi.CC⟩
 have h1:=GN s0 x
 have yf:=h1.inv W4
 obtain ⟨l2,⟨BW,iJ,XI⟩,h2⟩:=CE (fc s0 x) x yf
 have h3:=CI.ai (eM (fc s0 x) x).1 (!(eM (fc s0 x) x).2) 13
 have hh:=(h1.trans h2).trans h3
 have hs : ia s k x = { (eM (fc s0 x) x).1.ai (!(eM (fc s0 x) x).2) 13 with aG:=((eM (fc s0 x) x).1.ai (!(eM (fc s0 x) x).2) 13).aG.take s.aG.length ++ dF (((eM (fc s0 x) x).1.ai (!(eM (fc s0 x) x).2) 13).aG.drop s.aG.length) }:=by
  rw [<- BA]; rfl
 rw [hs]
 generalize (eM (fc s0 x) x).1.ai (!(eM (fc s0 x) x).2) 13 = s3 at *
 obtain ⟨E,hE,jB⟩:=hh.aG
 have e0 : s0.aG = s.aG /\ s0.at_ = (k : Int) /\ s0.ky = s.ky /\ s0.aL = s.aL /\ s0.ah = s.ah /\ s0.ak = s.ak /\ s0.most = s.most:=by rw [<- BA]; exact ⟨rfl,rfl,rfl,rfl,rfl,rfl,rfl⟩
 obtain ⟨f1,f2,f3,f4,f5,f6,f7⟩:=e0
 have rO : ([12] ++ l2 ++ [13]).Nodup:=by
  rw [List.nodup_append,List.nodup_append]
  refine ⟨⟨by simp,BW,fun a ha b hb=>?_⟩,by simp,fun a ha b hb=>?_⟩
  ·simp at ha; have:=iJ b hb; omega
  ·simp at hb
   rcases List.mem_append.1 ha with ha | ha
   ·simp at ha; omega
   ·have:=iJ a ha; omega
 have hlen:=jB.length_le
 simp at hlen
 refine ⟨E,jB.nodup rO,fun q hq=>?_,by omega,?_,?_,by dsimp only; rw [hh.ky,f3],by dsimp only; rw [hh.aL,f4],by dsimp only; rw [hh.most,f7],by dsimp only; rw [hh.len,f5],by dsimp only; have:=hh.ak; rw [f6] at this; omega,fun m hm b hb=>?_⟩
 ·have:=jB.subset hq
  rcases List.mem_append.1 this with h | h
  ·rcases List.mem_append.1 h with h | h
   ·simp at h; omega
   ·have:=iJ q h; omega
  ·simp at h; omega
 ·dsimp only
  rw [hE,f1,f2]
  rw [List.take_left' rfl,List.drop_left' rfl]
 ·have:=hh.inv W4
  exact ⟨this.ord,this.nU,this.oS,this.CC⟩
 ·have:=hh.G7 m (by rw [f5]; exact hm) b hb
  omega
theorem Bn {l : List Ex} {L : List fb} {k : Nat} {s : IW} (h : GI l L k s) (i : Nat) (x : Ev) : GI l L (k + 1) (ia s i x):=by
 obtain ⟨E,e1,e2,e3,e4,e5,e6,e7,e8,e9,e10,e11⟩:=tG s i x h.inv
 refine ⟨e6.trans h.ky,e7.trans h.aL,e9.trans h.len,?_,by have:=h.ak; omega,fun b hb=>by have:=e11 k h.G7 b hb; omega,e5⟩
 rw [e4,List.length_append,kN,List.length_map]
 have:=h.aG
 omega
theorem fR {l : List Ex} {L : List fb} {s : IW} (h : GI l L 0 s) : ∀ k,GI l L k (eG s l k)
 | 0=>h
 | k + 1=>by
   have ih:=fR h k
   unfold eG
   split
   ·exact Bn ih k _
   ·exact ⟨ih.ky,ih.aL,ih.len,by have:=ih.aG; omega,by have:=ih.ak; omega,fun b hb=>by have:=ih.G7 b hb; omega,ih.inv⟩
theorem gi (L : List fb) (most : Int) (l : List Ex) : GI l L 0 (ft L most l):=by
 refine ⟨rfl,rfl,by simp [ft],by simp [ft],by simp [ft],fun b hb=>?_,⟨rfl,List.nodup_nil,fun c hc=>by simp [ft] at hc,fun q hq=>by simp [ft] at hq⟩⟩
 have:=(List.mem_replicate.1 hb).2
 rw [this]
 exact Nat.le_refl _
def JH (b bc br bm bw p : Nat) : cQ:=fun c=>match c with
 | .w=>some p
 | .ah=>some b
 | .mc=>some bc
 | .mr=>some br
 | .mb=>some bm
 | .mw=>some bw
 | _=>none
theorem GO {bx : aa} (hf : bj bx) (L : List fb) (most : Int) (l : List Ex) {b bc br bm bw p : Nat} (h1 : bx b = none) (h2 : bx bc = none) (h3 : bx br = none) (h4 : bx bm = none) (h5 : bx bw = none) (h6 : bx p = none)
 (d1 : bc ≠ b) (d2 : br ≠ b /\ br ≠ bc) (d3 : bm ≠ b /\ bm ≠ bc /\ bm ≠ br) (d4 : bw ≠ b /\ bw ≠ bc /\ bw ≠ br /\ bw ≠ bm) (d5 : p ≠ b /\ p ≠ bc /\ p ≠ br /\ p ≠ bm /\ p ≠ bw) :
 WI bx (JH b bc br bm bw p) (ft L most l) (aA (aA (aA (aA (aA (aA bx b (some (.row 194 6 (List.replicate L.length (kK .aI fZ))))) bc (some (.map []))) br (some (.map []))) bm (some (.map []))) bw (some (.map []))) p (some (.row 94 13 [.agg [.sl 4 (L.map bT),iI most,.sl 8 (l.map fY),iI 0,iI 0,.own b 6 0 L.length,.mp bc,.aI,.mp br,.mp bm,.mp bw,.bool false,.aI]]))):=by
 refine ⟨?_,?_,fun c x hc=>?_,fun c hc ho=>?_,fun c c' x hc gP=>?_⟩
 ·repeat' apply (ar _ _ _).2
  exact hf
 ·exact ((((((Ext.refl bx).aN h1 _).aN h2 _).aN h3 _).aN h4 _).aN h5 _).aN h6 _
 ·have bN : (List.replicate L.length fZ).mapIdx (ib (JH b bc br bm bw p)) = List.replicate L.length (kK .aI fZ):=by
   apply List.ext_getElem?
   intro j
   rw [List.getElem?_mapIdx,List.getElem?_replicate,List.getElem?_replicate]
   split <;> rfl
  cases c <;> simp only [JH,Option.some.injEq,reduceCtorEq] at hc
  ·subst hc; exact ⟨h6,by rw [af]; simp [cont,HN,il,ft,JH,j3,nD],trivial⟩
  ·subst hc
   refine ⟨h1,?_,trivial⟩
   rw [ae _ _ (Ne.symm d5.1),ae _ _ (Ne.symm d4.1),ae _ _ (Ne.symm d3.1),ae _ _ (Ne.symm d2.1),ae _ _ (Ne.symm d1),af]
   show _ = some (bI.row _ 6 ((List.replicate L.length fZ).mapIdx _))
   rw [bN]
  ·subst hc
   refine ⟨h2,?_,trivial⟩
   rw [ae _ _ (Ne.symm d5.2.1),ae _ _ (Ne.symm d4.2.1),ae _ _ (Ne.symm d3.2.1),ae _ _ (Ne.symm d2.2),af]
   rfl
  ·subst hc
   refine ⟨h3,?_,trivial⟩
   rw [ae _ _ (Ne.symm d5.2.2.1),ae _ _ (Ne.symm d4.2.2.1),ae _ _ (Ne.symm d3.2.2),af]
   rfl
  ·subst hc
   refine ⟨h4,?_,trivial⟩
   rw [ae _ _ (Ne.symm d5.2.2.2.1),ae _ _ (Ne.symm d4.2.2.2),af]
   rfl
  ·subst hc
   refine ⟨h5,?_,trivial⟩
   rw [ae _ _ (Ne.symm d5.2.2.2.2),af]
   rfl
 ·cases c <;> simp only [JH,reduceCtorEq] at hc
  ·rfl
  ·rfl
  ·rename_i i
   show ((List.replicate L.length fZ).getD i fZ).waits = []
   rw [List.getD_eq_getElem?_getD,List.getElem?_replicate]
   split <;> rfl
  ·exact absurd ho (Nat.not_lt_zero _)
  ·exact absurd ho (Nat.not_lt_zero _)
 ·cases c <;> cases c' <;> simp only [JH,Option.some.injEq,reduceCtorEq] at hc gP <;> first | rfl | (exfalso; subst hc; simp_all)
theorem GP (L : List fb) (most : Int) (l : List Ex) (hL : L.length <= 1000) (hl : l.length <= 2000) (hv : ∀ e,e ∈ l -> VE L.length e) (bx : aa) : aw prog 38 [eF L most l] bx fun r bx'=>∃ p ad,r = .ptr p 13 0 0 /\ ad .w = some p /\ WI bx ad (eG (ft L most l) l l.length) bx':=by
 obtain ⟨Kc,fe⟩ : ∃ Kc : V -> aa -> Prop,Kc = fun r bx'=>∃ p ad,r = .ptr p 13 0 0 /\ ad .w = some p /\ WI bx ad (eG (ft L most l) l l.length) bx':=⟨_,rfl⟩
 rw [<- fe]
 refine UZ fun hf=>?_
 simp [go_sem,C38,hf,eF]
 refine ⟨by simp [jh,mi],?_⟩
 simp [go_sem,hf,iI]
 simp [go_sem,M3,hf]
 refine ⟨by omega,by omega,?_⟩
 intro b hb bc Lk br Af bm HQ bw DN p hp
 obtain ⟨k1,hp⟩:=eg hp
 obtain ⟨k2,hp⟩:=eg hp
 obtain ⟨k3,hp⟩:=eg hp
 obtain ⟨k4,hp⟩:=eg hp
 obtain ⟨k5,hp⟩:=eg hp
 obtain ⟨k6,DN⟩:=eg DN
 obtain ⟨k7,DN⟩:=eg DN
 obtain ⟨k8,DN⟩:=eg DN
 obtain ⟨k9,DN⟩:=eg DN
 obtain ⟨k10,HQ⟩:=eg HQ
 obtain ⟨k11,HQ⟩:=eg HQ
 obtain ⟨k12,HQ⟩:=eg HQ
 obtain ⟨k13,Af⟩:=eg Af
 obtain ⟨k14,Af⟩:=eg Af
 obtain ⟨k15,Lk⟩:=eg Lk
 have h0:=GO hf L most l hb Lk Af HQ DN hp k15 ⟨k14,k13⟩ ⟨k12,k11,k10⟩ ⟨k9,k8,k7,k6⟩ ⟨k5,k4,k3,k2,k1⟩
 refine an (CF _) ?_
 rintro r bx2 ⟨b7,h7,rfl,mh⟩
 obtain ⟨RL,O4⟩ : ∃ RL,(List.range 20).map iY = RL:=⟨_,rfl⟩
 have h1:=h0.beside h7 GB
 have Bo : bx b7 = none:=h0.CA h7
 have h2 : WI (aA bx b7 (some (.row 86 7 RL))) (JH b bc br bm bw p) (ft L most l) bx2:=by rw [mh,<- O4]; exact h1
 have HO : RL.length = 20:=by rw [<- O4]; rfl
 have hRg : ∀ n (h : n < RL.length),n < 20 -> RL[n] = iY n:=fun n h hn=>by
  have : RL[n]? = some (iY n):=by rw [<- O4,List.getElem?_map,List.getElem?_range hn]; rfl
  rw [List.getElem?_eq_getElem h] at this
  injection this
 clear h0 h1 mh h7
 have Ky : JH b bc br bm bw p .w = some p:=rfl
 generalize JH b bc br bm bw p = ad0 at *
 have da:=h2.fin
 simp [go_sem,da]
 refine ji (ι:=cQ × aa) l.length (fun k q=>q.1 .w = some p /\ WI (aA bx b7 (some (.row 86 7 RL))) q.1 (eG (ft L most l) l k) q.2) (fun k q=>⟨41,bR [(3,.ptr p 13 0 0),(4,.own b7 7 0 20),(20,.sl 8 (l.map fY)),(21,.int .i64 l.length),(22,.int .i64 k)],q.2⟩) (ad0,bx2) ⟨Ky,h2⟩ (al (by simp [go_sem])) (fun k q hk hJ N hN=>?_) (fun q hJ N=>?_)
 ·obtain ⟨ad,bx3⟩:=q
  obtain ⟨IL,h3⟩:=hJ
  dsimp only at IL h3 ⊢
  have hg:=fR (gi L most l) k
  have Bl:=hv _ (List.getElem_mem hk)
  have hz : eG (ft L most l) l (k + 1) = ia (eG (ft L most l) l k) k l[k].ev:=by rw [eG,List.getElem?_eq_getElem hk]
  rw [hz] at hN
  generalize eG (ft L most l) l k = s at *
  have lu:=h3.fin
  obtain ⟨pb,pc,pr,pm,pw',hn⟩:=h3.names IL
  have aq:=h3.row hn
  unfold il at aq
  simp only [iI] at aq
  have h4:=h3.world hn s.now (k : Int) s.stop
  unfold il at h4
  simp only [iI] at h4
  obtain ⟨_,Ec,afl⟩:=h3.back Bo
  obtain ⟨n,hn'⟩ : ∃ n : Nat,l[k].ev.kind = n:=⟨l[k].ev.kind.toNat,by have:=Bl.1; omega⟩
  have wP : 1 <= n:=by have:=Bl.1; omega
  have O5 : n < 20:=by have:=Bl.2.1; omega
  have hw:=bt (k:=k) (by omega)
  have zF : ∀ b,bx3 b = none -> aA bx3 b none = bx3:=fun b hb=>by
   funext c
   by_cases e : c = b
   ·rw [e,af,hb]
   ·rw [ae _ _ e]
  simp [go_sem,FM,hk,lu,aq,fY,dL,iI,hn']
  intro b6 hb6
  rw [zF b6 hb6]
  simp [go_sem,lu,aq]
  refine ⟨by omega,?_⟩
  generalize (aA bx3 p (some (bI.row 94 13 [V.agg [V.sl 4 (s.aL.map bT),V.int .i64 s.most,V.sl 8 (s.ky.map fY),V.int .i64 s.now,V.int .i64 k,V.own pb 6 0 s.ah.length,V.mp pc,j3 (ad .ord) 1 s.ord.length,V.mp pr,V.mp pm,V.mp pw',V.bool s.stop,j3 (ad .aG) 2 s.aG.length]]))) = bx4 at *
  obtain ⟨_,adm,_⟩:=h4.back Bo
  have nR:=h4.fin
  have Tm : ∀ j,V.agg (List.take 7 (iY j).cells) = iY j:=fun j=>by unfold iY QD; rfl
  have Po : iY n = .agg [.bool (nd n).call,.bool (nd n).bk,.bool (nd n).conn,.bool (nd n).jQ,.int .i64 (nd n).low,.int .i64 (nd n).high,.fn (.func (68 + n)) []]:=by
   unfold iY QD
   rw [if_neg (by omega)]
   rfl
  have lJ : (iY n).ax = true /\ (iY n).strip = iY n:=by rw [Po]; exact ⟨rfl,rfl⟩
  have evh : V.agg [V.int .i64 n,V.int .i64 l[k].b,V.int .i64 l[k].ev.t,V.int .i64 l[k].ev.call,V.int .i64 l[k].ev.conn,V.int .i64 l[k].ev.jQ,V.int .i64 l[k].ev.n,V.bool l[k].ev.yes] = dL l[k].ev l[k].b:=by simp [dL,iI,hn']
  simp [go_sem,nR,adm,HO,hRg,O5,v7,Tm,lJ.1,lJ.2]
  rw [evh,Po]
  generalize l[k] = e at *
  obtain ⟨s0,BA⟩ : ∃ s0 : IW,({ s with at_:=(k : Int) } : IW) = s0:=⟨_,rfl⟩
  have h4 : WI (aA bx b7 (some (.row 86 7 RL))) ad s0 bx4:=by rw [<- BA]; exact h4
  have g0 : GI l L k s0:=by rw [<- BA]; exact ⟨hg.ky,hg.aL,hg.len,hg.aG,hg.ak,hg.G7,⟨hg.inv.ord,hg.inv.nU,hg.inv.oS,hg.inv.CC⟩⟩
  have AB : ia s k e.ev = tD s0.aG.length (eM (fc s0 e.ev) e.ev):=by rw [<- BA]; rfl
  rw [AB] at hN
  have h1:=GN s0 e.ev
  have i1:=h1.inv g0.inv
  obtain ⟨l2,⟨BW,iJ,XI⟩,na⟩:=CE (fc s0 e.ev) e.ev i1
  have hh:=h1.trans na
  obtain ⟨E,hE,jB⟩:=hh.aG
  have hEl:=jB.length_le
  simp only [List.length_append,List.length_singleton] at hEl
  have hEm : ∀ q,q ∈ E -> 1 <= q /\ q <= 13:=fun q hq=>by
   rcases List.mem_append.1 (jB.subset hq) with h | h
   ·simp at h; omega
   ·have:=iJ q h; omega
  have hF : ∀ bx0' bx' ad',WI bx0' ad' (fc s0 e.ev) bx' -> ad' .w = some p -> aw prog (68 + n) [.ptr p 13 0 0,dL e.ev e.b] bx' (de bx0' ad' (eM (fc s0 e.ev) e.ev)):=by
   intro bx0' bx' ad' R5 qA
   have hq:=h1.aG
   obtain ⟨E1,We,Kr⟩:=hq
   have:=Kr.length_le
   have bg : (fc s0 e.ev).aG.length <= 50000:=by
    rw [We,List.length_append,List.length_map]
    have:=g0.aG
    simp only [List.length_singleton] at *
    omega
   have eU : (fc s0 e.ev).ah.length = L.length:=h1.len.trans g0.len
   have pQ:=h1.ak
   have:=OA R5 qA e (by rw [eU]; exact Bl) (by rw [eU,h1.aL,g0.aL]) (by omega) bg (by rw [i1.ord,List.length_map]; have:=g0.ak; omega) (fun b hb=>by have:=h1.G7 k g0.G7 b hb; omega) i1
   rw [hn'] at this
   exact this
  have gf:=g0.aG
  have hzl : (eM (fc s0 e.ev) e.ev).1.aG.length = s0.aG.length + E.length:=by rw [hE,List.length_append,List.length_map]
  have cE:=JA h4 IL e.ev e.b (68 + n) (nd n).call (nd n).bk (nd n).conn (nd n).jQ (nd n).low (nd n).high (eM (fc s0 e.ev) e.ev) hF (by omega) (by omega) (by omega) (fun f hf=>by
   rw [hE,List.drop_left' rfl] at hf
   obtain ⟨q,hq,rfl⟩:=List.mem_map.1 hf
   have:=hEm q hq
   dsimp only
   omega)
  refine an cE ?_
  generalize tD s0.aG.length (eM (fc s0 e.ev) e.ev) = s9 at *
  rintro r kd ⟨rfl,ad5,E3,h5⟩
  have pE:=h5.fin
  simp [go_sem,pE,hw]
  exact hN _ (ad5,kd) ⟨E3 _ _ IL rfl,h5⟩ (al (by simp [go_sem]))
 ·obtain ⟨ad,bx3⟩:=q
  obtain ⟨IL,h3⟩:=hJ
  dsimp only at IL h3 ⊢
  have lu:=h3.fin
  simp [go_sem,FM,lu]
  refine aj (by simp [go_sem]) ?_
  rw [fe]
  exact ⟨p,ad,by simp [go_sem],IL,(h3.back Bo).1⟩
def Bp (sz : Nat) (es : List V) (v : V) : Prop:=v = .sl sz es \/ (es = [] /\ v = .aI)
theorem Bp.ok {sz : Nat} {es : List V} {v : V} (h : Bp sz es v) : v.cells = [v] /\ okV v = true /\ v.strip = v /\ v.ax = true:=by
 rcases h with rfl | ⟨_,rfl⟩ <;> exact ⟨rfl,rfl,rfl,rfl⟩
theorem WI.OB {aC bx : aa} {ad : cQ} {s : IW} (h : WI aC ad s bx) : Bp 2 (s.aG.map bH) (dA bx aC 1 (j3 (ad .aG) 2 s.aG.length)):=by
 cases hc : ad .aG with
 | none =>
   have h0 : s.aG = []:=h.none_ .aG hc trivial
   exact .inr ⟨by rw [h0]; rfl,rfl⟩
 | some b =>
   obtain ⟨h1,h2,_⟩:=h.at_ .aG b hc
   exact .inl (gb h2 h1 (by decide) (by simp))
def NE (e : Ex) : Prop:=e.ev.bk = e.b.toNat
theorem W5 {n : Nat} (h1 : 2 <= n) (h2 : n <= 16) : (nd n).bk = true:=by
 rcases (show n = 2 \/ n = 3 \/ n = 4 \/ n = 5 \/ n = 6 \/ n = 7 \/ n = 8 \/ n = 9 \/ n = 10 \/ n = 11 \/ n = 12 \/ n = 13 \/ n = 14 \/ n = 15 \/ n = 16 by omega) with rfl | rfl | rfl | rfl | rfl | rfl | rfl | rfl | rfl | rfl | rfl | rfl | rfl | rfl | rfl <;> rfl
theorem tH {nb : Nat} {e : Ex} (h : dY nb e = false) (hn : NE e) : VE nb e:=by
 unfold dY at h
 simp only [Bool.or_eq_false_iff,decide_eq_false_iff_not] at h
 obtain ⟨⟨h1,h2⟩,h3⟩:=h
 refine ⟨by omega,by omega,fun a b=>?_⟩
 have hb:=W5 (n:=e.ev.kind.toNat) (by omega) (by omega)
 unfold xM at h3
 simp only [Bool.or_eq_false_iff,hb,Bool.true_and,decide_eq_false_iff_not] at h3
 obtain ⟨⟨⟨⟨_,h4,h5⟩,_⟩,_⟩,_⟩:=h3
 unfold NE at hn
 exact ⟨by omega,by omega⟩
theorem jK {L : List fb} {most : Int} {l : List Ex} (h : (bF L most l).2 = 0) : L.length <= 16 /\ 1 <= L.length /\ L.any hZ = false /\ 0 <= most /\ most <= 20 /\ l.length <= 2000 /\ ∀ e,e ∈ l -> dY L.length e = false:=by
 unfold bF at h
 split at h
 ·rename_i h1; exact absurd h h1
 rename_i h1
 split at h
 ·cases h
 rename_i h2
 split at h
 ·cases h
 rename_i h3
 split at h
 ·cases h
 rename_i h4
 rw [List.findIdx?_eq_none_iff] at h4
 unfold jJ at h1
 split at h1
 ·exact absurd (by decide) h1
 rename_i h5
 split at h1
 ·exact absurd (by decide) h1
 rename_i h6
 exact ⟨by omega,by omega,by simpa using h6,by omega,by omega,by omega,fun e he=>by simpa using h4 e he⟩
def eH (L : List fb) (most : Int) (l : List Ex) : List (Int × Int) × Int:=if (bF L most l).2 = 0 then ((eG (ft L most l) l l.length).aG,0) else ([],(bF L most l).2)
theorem OC (L : List fb) (most : Int) (l : List Ex) (hL : L.length <= 1000000) (hl : l.length <= 4000000000000000000) (bp : ∀ e,e ∈ l -> NE e) (bx : aa) : aw prog 15 [eF L most l] bx fun r bx'=>bx' = bx /\ ∃ v,Bp 2 ((eH L most l).1.map bH) v /\ r = .dh [v,iI (eH L most l).2]:=by
 obtain ⟨Kc,fe⟩ : ∃ Kc : V -> aa -> Prop,Kc = fun r bx'=>bx' = bx /\ ∃ v,Bp 2 ((eH L most l).1.map bH) v /\ r = .dh [v,iI (eH L most l).2]:=⟨_,rfl⟩
 rw [<- fe]
 refine UJ fun hf=>?_
 have hc:=xO L most l hL hl bx
 have hr:=GP L most l
 have hg:=fR (gi L most l) l.length
 unfold eH at fe
 have uF:=jK (L:=L) (most:=most) (l:=l)
 obtain ⟨c,HR⟩ : ∃ c,bF L most l = c:=⟨_,rfl⟩
 rw [HR] at hc fe uF
 obtain ⟨s,hs⟩ : ∃ s,eG (ft L most l) l l.length = s:=⟨_,rfl⟩
 rw [hs] at hr fe hg
 obtain ⟨lv,GQ⟩ : ∃ lv,eF L most l = lv:=⟨_,rfl⟩
 have wz : lv.strip = lv /\ lv.ax = true /\ okV lv = true /\ lv.cells.length = 3 /\ V.agg (List.take 3 lv.cells) = lv:=by rw [<- GQ]; exact ⟨rfl,rfl,rfl,rfl,rfl⟩
 obtain ⟨v1,v2,v3,v4,v5⟩:=wz
 rw [GQ] at hc hr ⊢
 simp [go_sem,C15,hf,v1,v2,v3,v4,v5]
 refine ag hc ?_
 by_cases e0 : c.2 = 0
 ·rw [if_pos e0] at fe
  obtain ⟨q1,q2,q3,q4,q5,q6,q7⟩:=uF e0
  simp [go_sem,hf,v1,v2,v3,v4,v5,iI,e0]
  refine an (hr (by omega) q6 (fun e he=>tH (q7 e he) (bp e he)) bx) ?_
  rintro r bM ⟨p,ad,rfl,hp,hw⟩
  obtain ⟨pb,pc,pr,pm,pw',hn⟩:=hw.names hp
  have aq:=hw.row hn
  unfold il at aq
  have bg:=hw.fin
  have ho:=hw.Gp
  simp [go_sem,bg,aq,ho.strip,ho.live]
  refine fO 2 (by simp [go_sem,ho.strip,ho.live]) hw.ext ?_
  have e4 : ∀ vv,vv = j3 (ad .aG) 2 s.aG.length -> dA bM bx 2 (kq prog ⟨19,bR [(2,vv),(3,.int .i64 0)],bM⟩ [.tmp 2,.tmp 3]) = .dh [dA bM bx 1 vv,.int .i64 0]:=fun vv hv=>by
   have e5 : vv.strip = vv:=by rw [hv]; exact ho.strip
   simp [go_sem,dA,e5]
  rw [e4 _ rfl,fe]
  exact ⟨rfl,_,hw.OB,rfl⟩
 ·rw [if_neg e0] at fe
  simp [go_sem,hf,iI,e0]
  refine az (by simp [go_sem]) ?_
  rw [fe]
  exact ⟨rfl,.aI,.inr ⟨rfl,rfl⟩,by simp [go_sem,iI]⟩
def mN (n : Nat) (F : List (Int × Int)) : List Int × Bool:=if F.any (fun f=>decide (f.2 < (n : Int) - 1)) then ([],false) else (F.map (·.1),true)
def ff (L : List fb) (most : Int) (l : List Ex) : List Int × Bool:=mN l.length (eG (ft L most l) l l.length).aG
theorem zd {bx : aa} {b : Nat} (hb : bx b = none) : aA bx b none = bx:=by
 funext c
 by_cases e : c = b
 ·rw [e,af,hb]
 ·rw [ae _ _ e]
theorem bd.beside {bx : aa} {e sz : Nat} {es : List V} {v : V} (ho : bd bx e sz es v) {b : Nat} (hb : bx b = none) (x : Option bI) : bd (aA bx b x) e sz es v:=by
 rcases ho with h | ⟨b2,hv,c9⟩
 ·exact .inl h
 ·exact .inr ⟨b2,hv,by rw [ae _ _ (by rintro rfl; rw [c9] at hb; cases hb),c9]⟩
theorem Bq {n : Nat} {F : List (Int × Int)} {j : Nat} (hj : j < F.length) (h : F[j].2 < (n : Int) - 1) : mN n F = ([],false):=by
 unfold mN
 rw [if_pos (List.any_eq_true.2 ⟨_,List.getElem_mem hj,by simpa using h⟩)]
theorem zK {n : Nat} {F : List (Int × Int)} (h : ∀ j (hj : j < F.length),¬ F[j].2 < (n : Int) - 1) : mN n F = (F.map (·.1),true):=by
 unfold mN
 rw [if_neg]
 intro h2
 obtain ⟨f,hf,h3⟩:=List.any_eq_true.1 h2
 obtain ⟨j,hj,rfl⟩:=List.getElem_of_mem hf
 exact h j hj (by simpa using h3)
theorem JI (L : List fb) (most : Int) (l : List Ex) (hL : L.length <= 1000) (hl : l.length <= 2000) (hv : ∀ e,e ∈ l -> VE L.length e) (bx : aa) : aw prog 43 [eF L most l] bx fun r bx'=>bx' = bx /\ ∃ v,Bp 1 ((ff L most l).1.map iI) v /\ r = .dh [v,.bool (ff L most l).2]:=by
 obtain ⟨Kc,fe⟩ : ∃ Kc : V -> aa -> Prop,Kc = fun r bx'=>bx' = bx /\ ∃ v,Bp 1 ((ff L most l).1.map iI) v /\ r = .dh [v,.bool (ff L most l).2]:=⟨_,rfl⟩
 rw [<- fe]
 refine Vd fun hf=>?_
 have hr:=GP L most l hL hl hv bx
 have hg:=fR (gi L most l) l.length
 unfold ff at fe
 obtain ⟨s,hs⟩ : ∃ s,eG (ft L most l) l l.length = s:=⟨_,rfl⟩
 rw [hs] at hr fe hg
 obtain ⟨R,hR⟩ : ∃ R,mN l.length s.aG = R:=⟨_,rfl⟩
 rw [hR] at fe
 simp [go_sem,C43,hf,eF]
 refine an hr ?_
 rintro r bM ⟨p,ad,rfl,hp,hw⟩
 obtain ⟨pb,pc,pr,pm,pw',hn⟩:=hw.names hp
 have aq:=hw.row hn
 unfold il at aq
 have bg:=hw.fin
 have ho:=hw.Gp
 have jg:=hw.ext
 have hlen:=fun bx2=>fP (bx2:=bx2) (t:=31) ho vh
 simp [go_sem,ho.strip,ho.live] at hlen
 have qS : IntKind.i64.wrap ((l.length : Int) - 1) = (l.length : Int) - 1:=ij (by omega)
 have tY:=hg.aG
 simp [go_sem,bg,aq,ho.strip,ho.live,hlen]
 cases hc : ad .aG with
 | none =>
   have h0 : s.aG = []:=hw.none_ .aG hc trivial
   have QB : R = ([],true):=by rw [<- hR,h0]; rfl
   simp only [h0,j3,List.length_nil]
   refine ct 0 (fun k=>⟨31,bR [(1,.ep (.agg [.sl 4 (L.map bT),iI most,.sl 8 (l.map fY)]) 0),(4,.aI),(11,.aI),(12,.int .i64 0),(13,.int .i64 0)],bM⟩) (al (by simp [go_sem,iI])) (fun k hk N hN=>by omega) (fun N=>?_)
   simp [go_sem,Ch,bg]
   refine bC (by simp [go_sem]) jg ?_
   rw [fe,QB]
   exact ⟨rfl,.aI,.inr ⟨rfl,rfl⟩,by simp [go_sem]⟩
 | some b =>
   obtain ⟨dD,Af,_⟩:=hw.at_ .aG b hc
   have Af : bM b = some (.row ni 2 (s.aG.map bH)):=Af
   clear hlen ho
   generalize s.aG = F at *
   simp only [j3]
   refine ji (ι:=V × aa) F.length (fun k q=>bj q.2 /\ Ext bx q.2 /\ q.2 b = some (.row ni 2 (F.map bH)) /\ bd q.2 3 1 (((F.take k).map (·.1)).map iI) q.1 /\ ll bx q.1 /\ ∀ j (hj : j < F.length),j < k -> ¬ F[j].2 < (l.length : Int) - 1) (fun k q=>⟨31,bR [(1,.ep (.agg [.sl 4 (L.map bT),iI most,.sl 8 (l.map fY)]) 0),(4,q.1),(11,.own b 2 0 F.length),(12,.int .i64 F.length),(13,.int .i64 k)],q.2⟩) (.aI,bM) ⟨bg,jg,Af,.inl ⟨rfl,rfl⟩,(show ll bx .aI from fun b sz o m e=>by cases e),fun j hj h=>absurd h (Nat.not_lt_zero _)⟩ (al (by simp [go_sem,iI])) (fun k q hk hJ N hN=>?_) (fun q hJ N=>?_)
   ·obtain ⟨v,bx2⟩:=q
    obtain ⟨da,di,c9,ho,xz,ig⟩:=hJ
    dsimp only at da di c9 ho xz ig ⊢
    have hw:=bt (k:=k) (by omega)
    simp [go_sem,Ch,hk,da,c9,bH,iI,qS]
    intro b6 hb6
    rw [zd hb6]
    refine ⟨fun h1=>?_,fun h1=>?_⟩
    ·have hR1 : R = ([],false):=by rw [<- hR]; exact Bq hk h1
     refine bC (by simp [go_sem]) di ?_
     rw [fe,hR1]
     exact ⟨rfl,.aI,.inr ⟨rfl,rfl⟩,by simp [go_sem]⟩
    ·intro b7 Ec
     have hn7 : b ≠ b7:=by rintro rfl; rw [c9] at Ec; cases Ec
     have Bo : bx b7 = none:=di.none Ec
     have QF:=ho.beside Ec (some (bI.row 3 1 [V.int .i64 F[k].1]))
     have Ll : bj (aA bx2 b7 (some (bI.row 3 1 [V.int .i64 F[k].1]))):=(ar _ _ _).2 da
     have OD : Ext bx (aA bx2 b7 (some (bI.row 3 1 [V.int .i64 F[k].1]))):=di.aN Bo _
     have eV : aA bx2 b7 (some (bI.row 3 1 [V.int .i64 F[k].1])) b = some (.row ni 2 (F.map bH)):=by rw [ae _ _ hn7,c9]
     have GR : aA bx2 b7 (some (bI.row 3 1 [V.int .i64 F[k].1])) b7 = some (bI.row 3 1 [V.int .i64 F[k].1]):=af _ _ _
     generalize aA bx2 b7 (some (bI.row 3 1 [V.int .i64 F[k].1])) = bx3 at *
     refine ey (.int .i64 0) QF Ll (news:=[iI F[k].1]) MY IN (by simp [go_sem,bP,GR,iI]) MV (by simp [go_sem]) (by decide) (by simp [aan]; omega) (by simp; omega) (by simp [go_sem]) fun v' bx' ha hm _=>?_
     obtain ⟨e1,e2⟩:=hm.base OD xz
     have bp : ∀ sz o m,v ≠ .own b sz o m:=QF.ne eV (by decide)
     have aQ : bx' b = _:=(hm.other (by rw [eV]; simp) bp).trans eV
     have fA : bd bx' 3 1 (((F.take (k + 1)).map (·.1)).map iI) v':=by
      rw [List.take_succ_eq_append_getElem hk,List.map_append,List.map_append]; exact ha
     simp [go_sem,hm.fin,ha.strip,ha.live,ha.cells,ha.okV,hw]
     exact hN _ (v',bx') ⟨hm.fin,e1,aQ,fA,e2,fun j hj BF=>by
      rcases Nat.lt_or_ge j k with h | h
      ·exact ig j hj h
      ·have : j = k:=by omega
       subst this
       omega⟩ (al (by simp [go_sem,iI]))
   ·obtain ⟨v,bx2⟩:=q
    obtain ⟨da,di,c9,ho,xz,ig⟩:=hJ
    dsimp only at da di c9 ho xz ig ⊢
    have hR1 : R = (F.map (·.1),true):=by rw [<- hR]; exact zK fun j hj=>ig j hj hj
    rw [List.take_of_length_le (Nat.le_refl _)] at ho
    simp [go_sem,Ch,da,ho.strip,ho.live]
    refine fO 2 (by simp [go_sem,ho.strip,ho.live]) di ?_
    have e4 : dA bx2 bx 2 (kq prog ⟨31,bR [(2,v),(3,.bool true)],bx2⟩ [.tmp 2,.tmp 3]) = .dh [dA bx2 bx 1 v,.bool true]:=by simp [go_sem,dA,ho.strip]
    rw [e4,fe,hR1]
    refine ⟨rfl,_,?_,rfl⟩
    rcases ho with ⟨h0,rfl⟩ | ⟨b3,rfl,rG⟩
    ·exact .inr ⟨h0,rfl⟩
    ·exact .inl (gb rG (xz _ _ _ _ rfl) (by decide) rfl)
theorem Bp.wk {sz : Nat} {es : List V} {v : V} (h : Bp sz es v) : Wk v (.sl sz es):=by
 rcases h with rfl | ⟨h0,rfl⟩
 ·exact Wk.refl _
 ·exact rT h0
theorem xP (L : List fb) (most : Int) (l : List Ex) (hL : L.length <= 1000000) (hl : l.length <= 4000000000000000000) (bp : ∀ e,e ∈ l -> NE e) (bx : aa) : ay prog 15 [eF L most l] bx (.dh [.sl 2 ((eH L most l).1.map bH),iI (eH L most l).2]):=by
 refine ay.wk ((OC L most l hL hl bp bx).mono ?_)
 rintro r bx' ⟨rfl,v,hv,rfl⟩
 exact ⟨p9 hv.wk (Wk.refl _),rfl⟩
theorem JJ (L : List fb) (most : Int) (l : List Ex) (hL : L.length <= 1000) (hl : l.length <= 2000) (hv : ∀ e,e ∈ l -> VE L.length e) (bx : aa) : ay prog 43 [eF L most l] bx (.dh [.sl 1 ((ff L most l).1.map iI),.bool (ff L most l).2]):=by
 refine ay.wk ((JI L most l hL hl hv bx).mono ?_)
 rintro r bx' ⟨rfl,v,hv,rfl⟩
 exact ⟨p9 hv.wk (Wk.refl _),rfl⟩
theorem GS (es : List V) (hl : es.length <= 100000) (bx : aa) : aw prog 42 [.sl 8 es] bx fun r bx'=>Acc bx 69 8 es r bx':=by
 refine KV fun hf=>?_
 simp [go_sem,C42,hf]
 refine ⟨fun b hb=>?_,fun h0=>?_⟩
 ·refine jH (.agg #[.int .i64 0,.int .i64 0,.int .i64 0,.int .i64 0,.int .i64 0,.int .i64 0,.int .i64 0,.bool false]) (rU hb hf _ 8 [] 0 rfl) (Ext.refl _) ((ar _ _ _).2 hf) zf vk (news:=es) ?_ rY (by simp [go_sem]) (by decide) ?_ ?_ (by simp [go_sem]) fun v' bx3 ha=>?_
  ·simp [bP]
  ·simp [Cb]; omega
  ·simp; omega
  ·simp only [List.nil_append] at ha
   simp [go_sem]
   refine aj (by simp [go_sem,ha.live]) ?_
   simpa [go_sem,ha.strip] using ha
 ·subst h0
  refine aj (by simp [go_sem]) ?_
  simpa [go_sem] using wQ hf _ 8
theorem GU (es : List V) (hl : es.length <= 100000) (bx : aa) : ay prog 42 [.sl 8 es] bx (.sl 8 es):=by
 refine ay.wk ?_
 refine KV fun hf=>?_
 simp [go_sem,C42,hf]
 refine ⟨fun b hb=>?_,fun h0=>?_⟩
 ·refine jH (.agg #[.int .i64 0,.int .i64 0,.int .i64 0,.int .i64 0,.int .i64 0,.int .i64 0,.int .i64 0,.bool false]) (rU hb hf _ 8 [] 0 rfl) (Ext.refl _) ((ar _ _ _).2 hf) zf vk (news:=es) ?_ rY (by simp [go_sem]) (by decide) ?_ ?_ (by simp [go_sem]) fun v' bx3 ha=>?_
  ·simp [bP]
  ·simp [Cb]; omega
  ·simp; omega
  ·simp only [List.nil_append] at ha
   simp [go_sem]
   refine zb (e:=69) (by simp [go_sem,ha.live]) ?_ (by decide)
   simpa [go_sem,ha.strip] using ha
 ·refine BU (by simp [go_sem]) ?_
  simpa [go_sem] using rT h0
theorem GV (es : List V) (hl : es.length <= 100000) (bx : aa) : ay prog 41 [.sl 4 es] bx (.sl 4 es):=by
 refine ay.wk ?_
 refine Vc fun hf=>?_
 simp [go_sem,C41,hf]
 refine ⟨fun b hb=>?_,fun h0=>?_⟩
 ·refine jH (.agg #[.int .i64 0,.int .i64 0,.int .i64 0,.int .i64 0]) (rU hb hf _ 4 [] 0 rfl) (Ext.refl _) ((ar _ _ _).2 hf) KN AR (news:=es) ?_ F7 (by simp [go_sem]) (by decide) ?_ ?_ (by simp [go_sem]) fun v' bx3 ha=>?_
  ·simp [bP]
  ·simp [MX]; omega
  ·simp; omega
  ·simp only [List.nil_append] at ha
   simp [go_sem]
   refine zb (e:=111) (by simp [go_sem,ha.live]) ?_ (by decide)
   simpa [go_sem,ha.strip] using ha
 ·refine BU (by simp [go_sem]) ?_
  simpa [go_sem] using rT h0
theorem JK (a b : List Int) (ha : a.length <= 1000000) (bx : aa) : ay prog 45 [.sl 1 (a.map iI),.sl 1 (b.map iI)] bx (.bool (decide (a = b))):=by
 refine Ve fun hf=>?_
 by_cases he : a.length = b.length
 rotate_left
 ·have tX : ¬ (a.length : Int) = b.length:=by omega
  have hz : decide (a = b) = false:=by simp; rintro rfl; exact he rfl
  simp [go_sem,C45,hf,tX,he]
  exact az (by simp [go_sem]) ⟨by simp [go_sem,hz],rfl⟩
 ·have tX : (a.length : Int) = b.length:=by omega
  simp [go_sem,C45,hf,tX,he]
  refine eP b.length (fun i=>a.getD i 0 != b.getD i 0) (fun i=>⟨26,bR [(0,.sl 1 (a.map iI)),(1,.sl 1 (b.map iI)),(12,.int .i64 b.length),(13,.int .i64 i)],bx⟩) (al (by simp [go_sem])) (fun i hi hJ N hN=>?_) (fun hJ N=>?_)
  ·have hia : i < a.length:=by omega
   have hw:=bt (k:=i) (by omega)
   have g1 : a.getD i 0 = a[i]:=by simp [hia]
   have g2 : b.getD i 0 = b[i]:=by simp [hi]
   rw [g1,g2] at hN
   by_cases e : a[i] = b[i]
   ·simp [go_sem,Ci,hf,hi,hia,hw,iI,e]
    exact hN _ (by simp [e]) (al (by simp [go_sem]))
   ·have hz : decide (a = b) = false:=by simp; rintro rfl; exact e rfl
    simp [go_sem,Ci,hf,hi,hia,hw,iI,e]
    exact az (by simp [go_sem]) ⟨by simp [go_sem,hz],rfl⟩
  ·have hz : a = b:=by
    apply List.ext_getElem he
    intro i h1 h2
    have:=hJ i h2
    simpa [h1,h2] using this
   simp [go_sem,Ci,hf]
   exact az (by simp [go_sem]) ⟨by simp [go_sem,hz],rfl⟩
end Go.Proofs
namespace Go.Pl
open Go
theorem uG {P : Program} {ops : Array Oper} {o : Oper} {a : Act} {w w' : World} {K : Act -> World -> Prop} {Q : Exit -> Act -> World -> Prop} {E : Prop}
 (hg : o.guard = none) (s x : Operand) (t : TypeId) (cm : o.op = Op.call { callee:=Callee.builtin Builtin.append,args:=#[s,x],argTypes:=#[t,t] })
 (vs vx r : Value) (hs : a.eval s = vs) (hx : a.eval x = vx) (dS : (Builtin.append_ #[t,t] o.type #[vs,vx]).run P w = .ok r w')
 (hK : K (a.put o.dst r) w') :
 if Region.wanted o (yielded ops a.tmps) = true then Oper.wp P o a w K Q else E:=by
 have hw : Region.wanted o (yielded ops a.tmps) = true:=by simp [Region.wanted,hg]
 rw [if_pos hw]
 unfold Oper.wp
 simp [execOp,cm,resolve,invoke,builtin,hs,hx,dS,Result.andThen]
 exact hK
theorem Br {P : Program} {w : World} {t ty e : TypeId} {i : TypeInfo} {z : Value} {fr : Nat × Nat} (ht : P.underlying t = some (.slice e)) (hi : P.info? e = some i) (hz : i.zero = some z) (hz8 : z.cells.size = 8) (LA : ∀ v ∈ z.cells.toList,v.oneCell' = true) {blk o cap : Nat} {oO : TypeId} {cur : Array Value} (aV : w.heap[blk]? = some (.cells cur oO fr)) (iG : oT cur.size fr) (fp : o + 8 <= cur.size) :
 (Builtin.clear_ #[t] ty #[.slice (some ⟨blk,o,none⟩) 1 cap]).run P w = .ok (.tuple #[]) (w.setRow blk (cur.toList.take o ++ z.cells.toList ++ cur.toList.drop (o + 8)).toArray):=by
 have hzc : (Builtin.zeroCells z.cells 1).toList = z.cells.toList:=by
  simp [Builtin.zeroCells,hz8]
  apply List.ext_getElem
  ·simp [hz8]
  ·intro i h1 h2
   have : i < 8:=by simpa using h1
   simp [Nat.mod_eq_of_lt this,show i < z.cells.size by omega]
 have iq:=dm (P:=P) blk o oO fr z.cells.toList 0 cur w aV iG (by simpa [hz8] using fp) LA
 simp only [Nat.add_zero,Array.length_toList,hz8] at iq
 simp [Builtin.clear_,run_underlying ht,zeroValue,typeInfo,hi,hz,hzc,iq]
end Go.Pl
namespace Go.Proofs
open Go Go.Pl Go.Lib Go.RowKit Go.Shelf Tryz
set_option maxRecDepth 100000 in
theorem Ed (w : World) (b n c i : Nat) (cur : Array Value) {fr : Nat × Nat} (hg : w.heap[b]? = some (.cells cur 69 fr)) (iG : oT cur.size fr) (hi : i < n) (rM : n <= c) (hc63 : c <= 9223372036854775807) (kz : c * 8 <= cur.size)
 (h1c : ∀ j,j < n * 8 -> (cur.getD j undef).oneCell' = true) :
 Calls prog 44 #[.slice (some ⟨b,0,none⟩) n c,.int .i64 i,.int .i64 ((i : Int) + 1)] w fun e w' =>
  e = .returned (.slice (some ⟨b,0,none⟩) (n - 1) c) /\ ∃ cur',w' = w.drew.setRow b cur' /\ cur'.size = cur.size /\ cur'.toList.take ((n - 1) * 8) = cur.toList.take (i * 8) ++ (cur.toList.drop ((i + 1) * 8)).take ((n - 1 - i) * 8):=by
 have uS : prog.underlying 23 = some (.slice 69):=by kernel_rfl
 have uT:=run_underlying uS
 have mixed : prog.follows .mixedOrders = true:=by kernel_rfl
 obtain ⟨i0,W4,BA,z,Zo,EC,LA⟩ : ∃ i0,prog.info? 69 = some i0 /\ i0.size = 8 /\ ∃ z,i0.zero = some z /\ z.cells.size = 8 /\ ∀ v ∈ z.cells.toList,v.oneCell' = true:=by
  refine ⟨(prog.info? 69).get (by kernel_rfl),by kernel_rfl,by kernel_rfl,((prog.info? 69).get (by kernel_rfl)).zero.get (by kernel_rfl),by kernel_rfl,by kernel_rfl,?_⟩
  have e : (((prog.info? 69).get (by kernel_rfl)).zero.get (by kernel_rfl)).cells.toList = [.int .i64 0,.int .i64 0,.int .i64 0,.int .i64 0,.int .i64 0,.int .i64 0,.int .i64 0,.bool false]:=by kernel_rfl
  rw [e]
  intro v hv
  simp at hv
  rcases hv with rfl | rfl <;> rfl
 have dD : w.drew.heap[b]? = some (.cells cur 69 fr):=hg
 obtain ⟨news,kD⟩ : ∃ news,news = (cur.toList.drop ((i + 1) * 8)).take ((n - 1 - i) * 8):=⟨_,rfl⟩
 have Zt : news.length = (n - 1 - i) * 8:=by rw [kD]; simp; omega
 have bA : ∀ j v,news[j]? = some v -> w.drew.cell? ⟨b,(i + 1) * 8 + j,none⟩ = some v:=fun j v hj=>by
  rw [kD,List.getElem?_take] at hj
  split at hj
  ·rw [List.getElem?_drop] at hj
   rw [cell_of_row w.drew b _ cur 69 fr dD]; simpa using hj
  ·cases hj
 have wP : ∀ v ∈ news,v.oneCell' = true:=fun v hv=>by
  obtain ⟨j,hj,rfl⟩:=List.getElem_of_mem hv
  have h3:=bA j _ (List.getElem?_eq_getElem hj)
  rw [cell_of_row w.drew b _ cur 69 fr dD] at h3
  have h2:=h1c ((i + 1) * 8 + j) (by omega)
  rw [Array.getD_eq_getD_getElem?,h3] at h2
  exact h2
 obtain ⟨A,hA,jO⟩ : ∃ A : Addr,(if c = i + 1 then some (⟨b,0,none⟩ : Addr) else some ⟨b,(i + 1) * 8,none⟩) = some A /\ Hid (∀ t u,news[t]? = some u -> w.drew.cell? (A.add t) = some u):=by
  by_cases h : c = i + 1
  ·refine ⟨⟨b,0,none⟩,by simp [h],fun t u hu=>?_⟩
   have h0 : news.length = 0:=by rw [Zt]; omega
   rw [List.length_eq_zero_iff.1 h0] at hu
   simp at hu
  ·refine ⟨⟨b,(i + 1) * 8,none⟩,by simp [h],fun t u hu=>?_⟩
   rw [Addr.add_lit]; exact bA t u hu
 obtain ⟨row1,fG⟩ : ∃ row1,row1 = (cur.toList.take (i * 8) ++ news ++ cur.toList.drop (i * 8 + news.length)).toArray:=⟨_,rfl⟩
 have lJ : row1.size = cur.size:=by rw [fG]; simp; omega
 have rP : ∀ oO cc,(Builtin.append_ #[23,23] oO #[.slice (some ⟨b,0,none⟩) i c,.slice (some A) (n - (i + 1)) cc]).run prog w.drew = .ok (.slice (some ⟨b,0,none⟩) (i + (n - (i + 1))) c) (w.drew.setRow b row1):=fun oO cc=>by
  have h:=j8 (P:=prog) (w:=w.drew) 23 oO 69 i0 uS W4 b i c cur dD iG A (n - (i + 1)) cc news (by rw [BA,Zt]; omega) jO.out wP (by omega) (by rw [BA]; omega)
  rw [h,fG,BA]
 obtain ⟨W1,Zu⟩ : ∃ W1,W1 = w.drew.setRow b row1:=⟨_,rfl⟩
 have W6 : W1.heap[b]? = some (.cells row1 69 fr):=by rw [Zu]; exact setRow_heap w.drew b cur _ 69 _ dD
 obtain ⟨row2,fH⟩ : ∃ row2,row2 = (row1.toList.take ((n - 1) * 8) ++ z.cells.toList ++ row1.toList.drop ((n - 1) * 8 + 8)).toArray:=⟨_,rfl⟩
 have jn : ∀ ty,(Builtin.clear_ #[23] ty #[.slice (some ⟨b,(i + (n - (i + 1))) * 8,none⟩) (n - (i + (n - (i + 1)))) (c - (i + (n - (i + 1))))]).run prog W1 = .ok (.tuple #[]) (W1.setRow b row2):=fun ty=>by
  rw [show i + (n - (i + 1)) = n - 1 by omega,show n - (n - 1) = 1 by omega,fH]
  exact Br uS W4 Zo EC LA W6 (by rw [lJ]; exact iG) (by rw [lJ]; omega)
 have X : Aside (W1.setRow b row2 = w.drew.setRow b row2 /\ row2.size = cur.size /\ row2.toList.take ((n - 1) * 8) = cur.toList.take (i * 8) ++ (cur.toList.drop ((i + 1) * 8)).take ((n - 1 - i) * 8)):=by
  refine ⟨by rw [Zu,setRow_setRow],by rw [fH]; simp [EC,lJ]; omega,?_⟩
  have l1 : (cur.toList.take (i * 8) ++ news).length = (n - 1) * 8:=by simp [Zt]; omega
  have e1 : row1.toList.take ((n - 1) * 8) = cur.toList.take (i * 8) ++ news:=by
   rw [fG]
   show List.take _ (cur.toList.take (i * 8) ++ news ++ _) = _
   rw [<- l1,List.take_left]
  rw [fH]
  show List.take _ (List.take ((n - 1) * 8) row1.toList ++ z.cells.toList ++ _) = _
  rw [e1,List.append_assoc,<- l1,List.take_left,kD]
 have hW : Hid (W1 = w.drew.setRow b row1):=Zu
 have afm : ¬ ((i : Int) = (i : Int) + 1):=by omega
 have hic : i <= c:=by omega
 have hjc : i + 1 <= c:=by omega
 have hjn : i + 1 <= n:=by omega
 have jd : IntKind.i64.wrap ((i : Int) + 1) = (i : Int) + 1:=by rw [IntKind.wrap_i64]; omega
 have htn : ((i : Int) + 1).toNat = i + 1:=by omega
 have eU : (0 : Int) <= (i : Int) + 1:=by omega
 have rG : (i : Int) <= (i : Int) + 1:=by omega
 have Li : (i : Int) + 1 <= (n : Int):=by omega
 clear Zu W6 bA wP Zt kD lJ fG fH
 go_enter func44,Tryz.ntmps44
 go_wp2_with fail
 go_region_law_o (refine uG rfl (.tmp 22) (.tmp 25) 23 rfl (.slice (some ⟨b,0,none⟩) i c) (.slice (some A) (n - (i + 1)) (c - (i + 1))) _ (by simp [Act.eval,Act.put]) (by simp [Act.eval,Act.put]) (rP _ (c - (i + 1))) ?_; rw [<- hW.out])
 go_wp2
 go_ret
 refine ⟨by rw [show n - 1 = i + (n - (i + 1)) by omega]; rfl,row2,X.out⟩
end Go.Proofs
namespace Go.Pl
open Go
theorem aw.dA {P : Program} {f : FuncId} {args : List V} {bx : aa} {Kc K2 : V -> aa -> Prop} (h : aw P f args bx Kc) (hs : ∀ r bx',Kc r bx' -> ∃ bx2 d,cj bx' bx2 /\ K2 (Go.Pl.dA bx' bx2 d r) bx2) : aw P f args bx K2:=by
 refine ⟨h.1,fun β M w vs h1 h2 h3 h4=>(h.2 β M w vs h1 h2 h3 h4).mono ?_⟩
 rintro e w' ⟨v,r,bx',β',rfl,hk,cY,ht,bN⟩
 obtain ⟨bx2,d,na,fJ⟩:=hs r bx' hk
 exact ⟨v,_,bx2,β',rfl,fJ,cY.sub na,ht.trans na.tr,kX cY na d _ _ bN⟩
end Go.Pl
namespace Go.Proofs
open Go Go.Pl Tryz
theorem tI {β : Beta} {w : World} {F : Nat -> Prop} {sz o n : Nat} {es : List V} {cur : Array Value} (h : dT β w F sz es cur) (hn : o + n <= es.length) : dT β w F sz ((es.drop o).take n) ((cur.toList.drop (o * sz)).take (n * sz)).toArray:=by
 intro i e he
 rw [List.getElem?_take,List.getElem?_drop] at he
 split at he
 ·rename_i hi
  obtain ⟨h1,h2⟩:=h (o + i) e he
  refine ⟨h1,fun j c hc=>?_⟩
  have hj : j < sz:=by have:=(List.getElem?_eq_some_iff.1 hc).1; omega
  have hb : i * sz + j < n * sz:=by
   have : (i + 1) * sz <= n * sz:=Nat.mul_le_mul_right _ hi
   rw [Nat.succ_mul] at this
   omega
  have e2 : ((cur.toList.drop (o * sz)).take (n * sz)).toArray.getD (i * sz + j) undef = cur.getD ((o + i) * sz + j) undef:=by
   simp only [Array.getD_eq_getD_getElem?,List.getElem?_toArray,List.getElem?_take,hb,if_true,List.getElem?_drop,Array.getElem?_toList]
   congr 2
   rw [Nat.add_mul]; omega
  rw [e2]
  exact h2 j c hc
 ·cases he
theorem zL {β : Beta} {w : World} {F : Nat -> Prop} {sz : Nat} {es : List V} {cur : Array Value} (h : dT β w F sz es cur) (hs : 0 < sz) : ∀ m,m < es.length * sz -> (cur.getD m undef).oneCell' = true:=by
 intro m hm
 have h4 : m / sz < es.length:=(Nat.div_lt_iff_lt_mul hs).2 hm
 have h5 : m % sz < sz:=Nat.mod_lt _ hs
 obtain ⟨h7,h8⟩:=h (m / sz) _ (List.getElem?_eq_getElem h4)
 have h9:=(h8 (m % sz) _ (List.getElem?_eq_getElem (by omega))).1
 have r9 : m / sz * sz + m % sz = m:=by
  have:=Nat.div_add_mod m sz
  rw [Nat.mul_comm] at this
  omega
 rw [r9] at h9
 exact h9
theorem Bs {bx : aa} {b : Nat} {es : List V} {i : Nat} (hb : bx b = some (.row 69 8 es)) (hi : i < es.length) :
 aw prog 44 [.own b 8 0 es.length,.int .i64 i,.int .i64 ((i : Int) + 1)] bx fun r bx'=>∃ b',aA bx b none b' = none /\ r = .own b' 8 0 (es.length - 1) /\ bx' = aA (aA bx b none) b' (some (.row 69 8 (es.take i ++ es.drop (i + 1)))):=by
 refine ⟨enters_of func44 (by kernel_rfl) rfl,fun β M w vs cY l9 ju bN=>?_⟩
 have h0:=bN 0 _ rfl
 have h1:=bN 1 _ rfl
 have h2:=bN 2 _ rfl
 have W7 : vs = #[vs.getD 0 undef,vs.getD 1 undef,vs.getD 2 undef]:=by
  apply Array.ext
  ·simpa using ju
  ·intro k k1 k2
   have k3 : k < 3:=by simpa using k2
   rcases k with _ | _ | _ | k
   ·simp [k1]
   ·simp [k1]
   ·simp [k1]
   ·omega
 rw [W7]
 generalize vs.getD 0 undef = u0 at *
 generalize vs.getD 1 undef = u1 at *
 generalize vs.getD 2 undef = u2 at *
 clear W7 ju bN
 generalize hN : es.length = n at h0
 cases h1
 cases h2
 cases h0 with
 | nv _ _ bL=>omega
 | own _ _ _ _ blk cap m oO bL hs hm hn gT =>
   subst hN
   rcases cY.live b _ hb with ⟨h3,_⟩ | ⟨blk',h3,dt,ZH,cur,fr,aV,iG,Ri,aq⟩
   ·rw [bL] at h3; cases h3
   ·rw [bL] at h3
    injection h3 with h3
    injection h3 with h3
    subst h3
    have kz : cap * 8 <= cur.size:=by
     rw [bJ aV] at hs
     injection hs with hs
     injection hs with _ hs
     rw [hs]; simpa using hm
    have EN : ∀ j,j < es.length * 8 -> (cur.getD j undef).oneCell' = true:=zL aq (by decide)
    have R1:=tI (o:=0) (n:=i) aq (by omega)
    have R3:=tI (o:=i + 1) (n:=es.length - 1 - i) aq (by omega)
    simp only [List.drop_zero,Nat.zero_mul] at R1
    have e3 : (es.drop (i + 1)).take (es.length - 1 - i) = es.drop (i + 1):=List.take_of_length_le (by simp; omega)
    rw [e3] at R3
    have l1 : (List.take (i * 8) cur.toList).length = (es.take i).length * 8:=by simp; omega
    have hlen : (es.take i ++ es.drop (i + 1)).length = es.length - 1:=by simp; omega
    have row : ∀ cur' : Array Value,cur'.toList.take ((es.length - 1) * 8) = cur.toList.take (i * 8) ++ (cur.toList.drop ((i + 1) * 8)).take ((es.length - 1 - i) * 8) -> dT β w (Fz β M bx w) 8 (es.take i ++ es.drop (i + 1)) cur':=fun cur' gP=>by
     refine nH (sz:=8) (es:=es.take i) (news:=es.drop (i + 1)) (xs:=List.take (i * 8) cur.toList) (vals:=(cur.toList.drop ((i + 1) * 8)).take ((es.length - 1 - i) * 8)) l1 R1 R3 (by simp; omega) cur' (by
      rw [<- gP]
      congr 1
      simp; omega)
    obtain ⟨b',eU,c9⟩:=cY.fresh
    have uo : aA bx b none b' = none:=by
     by_cases e0 : b' = b
     ·subst e0; exact af _ _ _
     ·rw [ae _ _ e0]; exact c9
    simp only [Nat.zero_mul]
    refine (Ed w blk es.length cap i cur aV iG hi hn (by simp only [maxLen] at gT; omega) kz EN).mono ?_
    rintro e w' ⟨rfl,cur',rfl,Iy,Q8⟩
    have jm : ∀ k,k ≠ blk -> (w.drew.setRow blk cur').heap[k]? = w.heap[k]?:=fun k hk=>setRow_other w.drew blk k cur' hk
    have yj : (w.drew.setRow blk cur').heap[blk]? = some (.cells cur' 69 fr):=setRow_heap w.drew blk cur cur' _ _ aV
    have hss : (w.drew.setRow blk cur').heap.size = w.heap.size:=by simp [World.setRow]
    have eY : ∀ k y,w.shape? k = some y -> (w.drew.setRow blk cur').shape? k = some y:=fun k y hy=>by
     by_cases e : k = blk
     ·subst e
      rw [bJ yj,Iy,<- bJ aV]; exact hy
     ·rw [bD (jm k e)]; exact hy
    obtain ⟨h5,h6⟩:=B9 cY b eU (w':=w.drew.setRow blk cur') rfl rfl rfl (Nat.le_succ _) (by rw [hss]; exact Nat.le_refl _) (fun k dV fJ=>jm k fun e=>fJ (by rw [hb]; simp) (by rw [e]; exact bL)) eY (some blk) 69 8 (es.take i ++ es.drop (i + 1)) (.inl (by decide)) (fun h=>by cases h) (fun g hg=>by
     injection hg with hg
     subst hg
     exact ⟨.inr ⟨by rw [hb]; simp,bL⟩,by rw [hss]; exact dt,cur',fr,yj,by rw [Iy]; exact iG,by rw [hlen]; omega,row cur' Q8⟩)
    refine ⟨_,_,_,_,rfl,⟨b',uo,rfl,rfl⟩,h5,h6,?_⟩
    have:=aP.own (β:=aA β b' (some (some blk))) (w:=w.drew.setRow blk cur') (F:=Fz (aA β b' (some (some blk))) M (aA (aA bx b none) b' (some (.row 69 8 (es.take i ++ es.drop (i + 1))))) (w.drew.setRow blk cur')) b' 8 0 (es.length - 1) blk cap _ 69 (af _ _ _) (bJ yj) (by rw [Iy]; simpa using kz) (by omega) (by simpa using gT)
    simpa using this
theorem Bt {bx : aa} {b : Nat} {es : List V} {i : Nat} (hb : bx b = some (.row 69 8 es)) (hi : i < es.length) :
 aw prog 44 [.own b 8 0 es.length,.int .i64 i,.int .i64 ((i : Int) + 1)] bx fun r bx'=>r = .sl 8 (es.take i ++ es.drop (i + 1)) /\ bx' = aA bx b none:=by
 refine (Bs hb hi).dA ?_
 rintro r bx' ⟨b',aQ,rfl,rfl⟩
 refine ⟨aA bx b none,1,(((Ext.refl (aA bx b none)).aN aQ _).sub),?_,rfl⟩
 exact gb (af _ _ _) aQ (by decide) (by simp; omega)
end Go.Proofs
namespace Go.Proofs
open Go Go.Pl Tryz
def dU (l : List Ex) (k : Nat) : List Ex:=l.take k ++ l.drop (k + 1)
def pO (ok : List Ex -> Bool) (l : List Ex) (k : Nat) : List Ex:=if ok (dU l k) then dU l k else l
def lF (ok : List Ex -> Bool) : Nat -> List Ex -> List Ex
 | 0,l=>l
 | k + 1,l=>lF ok k (pO ok l k)
def tJ (ok : List Ex -> Bool) : Nat -> List Ex -> List Ex
 | 0,l=>l
 | n + 1,l=>if (lF ok (l.length - 1) l).length = l.length then lF ok (l.length - 1) l else tJ ok n (lF ok (l.length - 1) l)
theorem tK {l : List Ex} {k : Nat} (h : k < l.length) : (dU l k).length = l.length - 1:=by
 unfold dU; simp; omega
theorem tL (l : List Ex) (k : Nat) : (dU l k).Sublist l:=by
 unfold dU
 have h:=List.take_append_drop k l
 have h2 : (l.drop (k + 1)).Sublist (l.drop k):=by
  have : l.drop (k + 1) = (l.drop k).drop 1:=by rw [List.drop_drop]
  rw [this]
  exact List.drop_sublist _ _
 have h3:=(List.Sublist.refl (l.take k)).append h2
 rw [h] at h3
 exact h3
theorem GW (ok : List Ex -> Bool) {l : List Ex} {k : Nat} (h : k < l.length) : l.length - 1 <= (pO ok l k).length /\ (pO ok l k).length <= l.length:=by
 unfold pO
 have hl:=tK h
 split
 ·omega
 ·omega
theorem GX (ok : List Ex -> Bool) (l : List Ex) (k : Nat) : (pO ok l k).Sublist l:=by
 unfold pO
 split
 ·exact tL l k
 ·exact .refl _
theorem vA (ok : List Ex -> Bool) : ∀ (k : Nat) (l : List Ex),k < l.length -> (lF ok k l).length <= l.length /\ 1 <= (lF ok k l).length
 | 0,l,h=>⟨Nat.le_refl _,h⟩
 | k + 1,l,h=>by
   have h1:=GW ok (l:=l) (k:=k) (by omega)
   have h2:=vA ok k (pO ok l k) (by omega)
   unfold lF
   omega
theorem vB (ok : List Ex -> Bool) : ∀ (k : Nat) (l : List Ex),(lF ok k l).Sublist l
 | 0,l=>.refl _
 | k + 1,l=>by
   unfold lF
   exact (vB ok k _).trans (GX ok l k)
structure afe (ok : List Ex -> Bool) (l R : List Ex) : Prop where
 ok_ : ok l = true -> ok R = true
 sub : R.Sublist l
 last : R.getLast? = l.getLast?
 pos : 1 <= R.length
 min : ∀ i,i + 1 < R.length -> ok (dU R i) = false
def W8 (f g : Int × Int) : Prop:=f.2 < g.2 \/ f.2 = g.2 /\ f.1 < g.1
theorem vC {E : List (Int × Int)} {k : Int} (hn : (E.map (·.1)).Nodup) (h2 : ∀ f,f ∈ E -> f.2 = k) : ∀ l : List (Int × Int),l.Sublist E -> l.Pairwise (fun a b=>a.1 <= b.1) -> l.Pairwise W8
 | [],_,_=>.nil
 | f :: l,hs,hp=>by
   rw [List.pairwise_cons] at hp ⊢
   have hf : f ∈ E:=hs.subset (by simp)
   have na : l.Sublist E:=(List.sublist_cons_self f l).trans hs
   have rO : ((f :: l).map (·.1)).Nodup:=(hs.map _).nodup hn
   simp only [List.map_cons,List.nodup_cons] at rO
   refine ⟨fun g hg=>.inr ⟨by rw [h2 f hf,h2 g (na.subset hg)],?_⟩,vC hn h2 l na hp.2⟩
   have h3:=hp.1 g hg
   have h4 : f.1 ≠ g.1:=fun e=>rO.1 (by rw [e]; exact List.mem_map_of_mem hg)
   omega
theorem JL {E : List Int} {k : Nat} (hn : E.Nodup) (hk : ∀ q,q ∈ E -> 1 <= q /\ q <= 13) : (dF (E.map fun q=>(q,(k : Int)))).Pairwise W8 /\ ∀ f,f ∈ dF (E.map fun q=>(q,(k : Int))) -> f.2 = k /\ 1 <= f.1 /\ f.1 <= 13:=by
 have hp:=qs (E.map fun q=>(q,(k : Int)))
 have hm : ∀ f,f ∈ dF (E.map fun q=>(q,(k : Int))) -> f.2 = k /\ 1 <= f.1 /\ f.1 <= 13:=fun f hf=>by
  obtain ⟨q,hq,rfl⟩:=List.mem_map.1 (hp.mem_iff.1 hf)
  exact ⟨rfl,hk q hq⟩
 refine ⟨vC (k:=k) ?_ (fun f hf=>(hm f hf).1) _ (List.Sublist.refl _) (mL _),hm⟩
 have h0 : ((E.map fun q=>(q,(k : Int))).map (·.1)) = E:=by rw [List.map_map]; exact List.map_id' E
 exact (hp.map (·.1)).nodup_iff.2 (by rw [h0]; exact hn)
theorem j4 {s : IW} {l : List Ex} {k : Nat} {e : Ex} (h : l[k]? = some e) : eG s l (k + 1) = ia (eG s l k) k e.ev:=by show (match l[k]? with | some e=>_ | none=>_) = _; rw [h]
theorem kO {s : IW} {l : List Ex} {k : Nat} (h : l[k]? = none) : eG s l (k + 1) = eG s l k:=by show (match l[k]? with | some e=>_ | none=>_) = _; rw [h]
theorem zM {s : IW} (hi : oK s) (l : List Ex) : ∀ k,oK (eG s l k)
 | 0=>hi
 | k + 1=>by
   have ih:=zM hi l k
   unfold eG
   split
   ·rename_i e _
    obtain ⟨E,_,_,_,_,h,_⟩:=tG (eG s l k) k e.ev ih
    exact h
   ·exact ih
theorem qu {s : IW} (hi : oK s) (l : List Ex) (k : Nat) : ∀ j,∃ G : List (Int × Int),(eG s l (k + j)).aG = (eG s l k).aG ++ G /\ G.Pairwise W8 /\ ∀ f,f ∈ G -> (k : Int) <= f.2 /\ f.2 < ((k + j : Nat) : Int) /\ 1 <= f.1 /\ f.1 <= 13
 | 0=>⟨[],by simp,.nil,fun f hf=>by simp at hf⟩
 | j + 1=>by
   obtain ⟨G,h1,h2,h3⟩:=qu hi l k j
   show ∃ G,(eG s l ((k + j) + 1)).aG = _ /\ _
   cases he : l[k + j]? with
   | some e =>
     rw [j4 he]
     obtain ⟨E,e1,e2,_,e4,_⟩:=tG (eG s l (k + j)) (k + j) e.ev (zM hi l _)
     obtain ⟨p1,p2⟩:=JL (k:=k + j) e1 e2
     refine ⟨G ++ dF (E.map fun q=>(q,((k + j : Nat) : Int))),by rw [e4,h1,List.append_assoc],?_,fun f hf=>?_⟩
     ·rw [List.pairwise_append]
      refine ⟨h2,p1,fun f hf g hg=>.inl ?_⟩
      have:=(h3 f hf).2.1
      have:=(p2 g hg).1
      omega
     ·rcases List.mem_append.1 hf with h | h
      ·have:=h3 f h; omega
      ·have:=p2 f h; omega
   | none =>
     rw [kO he]
     exact ⟨G,h1,h2,fun f hf=>by have:=h3 f hf; omega⟩
theorem CH (L : List fb) (most : Int) (l0 l : List Ex) (n : Nat) : (eG (ft L most l0) l n).aG.Pairwise W8 /\ ∀ f,f ∈ (eG (ft L most l0) l n).aG -> 0 <= f.2 /\ f.2 < n /\ 1 <= f.1 /\ f.1 <= 13:=by
 obtain ⟨G,h1,h2,h3⟩:=qu (gi L most l0).inv l 0 n
 have e : (eG (ft L most l0) l 0).aG = []:=rfl
 rw [e,List.nil_append,Nat.zero_add] at h1
 rw [h1]
 exact ⟨h2,fun f hf=>by have:=h3 f hf; omega⟩
def IW.ev (s : IW) (e : List Ex) : IW:={ s with ky:=e }
def Zv (e : List Ex) (z : IW × Bool) : IW × Bool:=(z.1.ev e,z.2)
theorem ek (s : IW) (e : List Ex) (c : Bool) (k : Int) : (s.ev e).ai c k = (s.ai c k).ev e:=by cases c <;> rfl
theorem gN (s : IW) (e : List Ex) (x : Ev) (q : IP) : aW (s.ev e) x q = (aW s x q).ev e:=by unfold aW; split <;> rfl
theorem vD (s : IW) (e : List Ex) (x : Ev) : gE (s.ev e) x = gE s x:=rfl
theorem vF (s : IW) (e : List Ex) (x : Int) : fF (s.ev e) x = fF s x:=rfl
theorem xQ (s : IW) (e : List Ex) (x : Ev) : oF (s.ev e) x = oF s x:=rfl
theorem qv (s : IW) (e : List Ex) (x : Ev) : fV (s.ev e) x = fV s x:=rfl
theorem xR (s : IW) (e : List Ex) (x : Ev) : lq (s.ev e) x = lq s x:=rfl
theorem vH (s : IW) (e : List Ex) (x : Ev) : fW (s.ev e) x = fW s x:=rfl
theorem Ee (s : IW) (e : List Ex) (x : Int) : iE (s.ev e) x = iE s x:=rfl
theorem Bu (s : IW) (e : List Ex) (x : Int) : jx (s.ev e) x = jx s x:=rfl
theorem oL (s : IW) (e : List Ex) (x : Ev) : bG (s.ev e) x = (bG s x).ev e:=rfl
theorem su (s : IW) (e : List Ex) (i : Nat) (b : IB) : (s.ev e).aO i b = (s.aO i b).ev e:=rfl
theorem xS (s : IW) (e : List Ex) (i : Nat) (b : IC) : (s.ev e).ba i b = (s.ba i b).ev e:=rfl
theorem xU (s : IW) (e : List Ex) (i : Nat) (b : IR) : (s.ev e).dO i b = (s.dO i b).ev e:=rfl
theorem zN (s : IW) (e : List Ex) (i : Nat) (x : Ev) : jr (s.ev e) i x = (jr s i x).ev e:=by
 unfold jr
 exact gN { s with ak:=s.ak.set i { s.ak.getD i kv with st:=1,call:=x.call,aU:=ck ((s.ak.getD i kv).aU + 1) } } e x _
theorem rn (s : IW) (e : List Ex) (x : Ev) : aZ (s.ev e) x = Zv e (aZ s x):=by
 unfold aZ
 rw [Ee,Bu]
 split
 ·exact congrArg (fun z=>(z,true)) (gN { s with ah:=s.ah.set x.bk { s.ah.getD x.bk fZ with au:=ck ((s.ah.getD x.bk fZ).au - 1) } } e x dB)
 ·rfl
theorem xV (s : IW) (e : List Ex) : (s.ev e).ah = s.ah:=rfl
theorem oM (s : IW) (e : List Ex) : (s.ev e).ak = s.ak:=rfl
theorem tM (s : IW) (e : List Ex) : (s.ev e).aD = s.aD:=rfl
theorem xW (s : IW) (e : List Ex) : (s.ev e).aL = s.aL:=rfl
theorem OE (s : IW) (e : List Ex) : (s.ev e).now = s.now:=rfl
theorem JM (s : IW) (e : List Ex) : (s.ev e).most = s.most:=rfl
theorem CJ (s : IW) (e : List Ex) : (s.ev e).stop = s.stop:=rfl
theorem GY (s : IW) (e : List Ex) (x : Ev) : eM (s.ev e) x = Zv e (eM s x):=by
 unfold eM
 split
 ·unfold oH
  rw [tM,CJ]
  split <;> rfl
 ·unfold qV
  rw [vF]
  split
  ·rfl
  ·dsimp only
   simp only [ek,su,xU,xV,tM,JM]
   split <;> simp only [ek,su,xU] <;> rfl
 ·unfold pC
  rw [vD,xQ]
  split
  ·rfl
  ·dsimp only
   simp only [ek,su,gN,xV,xW]
   rfl
 ·unfold mG
  rw [vD]
  split
  ·simp only [oL,gN]; rfl
  ·rfl
 ·unfold qU
  rw [xQ]
  split
  ·dsimp only
   simp only [ek,vH,oL,su,gN,xV,xW]
   rfl
  ·rfl
 ·exact rn s e x
 ·unfold qW
  rw [oM,rn]
  split
  ·rfl
  ·dsimp only [Zv]
   split
   ·split
    ·generalize (aZ s x).1 = d
     exact congrArg (fun z=>(z,true)) (zN (({ d with ak:=d.ak ++ [(⟨x.conn,x.bk,0,d.now,-1,0,0,3,0,0⟩ : IC)],ord:=d.ord ++ [x.conn] } : IW).aO x.bk { d.ah.getD x.bk fZ with cp:=ck ((d.ah.getD x.bk fZ).cp + 1) }) e d.ak.length x)
    ·rfl
   ·rfl
 ·unfold mJ
  rw [xQ,qv]
  split
  ·split
   ·rfl
   ·dsimp only
    rw [oM]
    split
    ·rfl
    ·split
     ·rfl
     ·simp only [ek,vH,oL,zN,OE,xW]
      rfl
  ·rfl
 ·unfold qR
  rw [xR,tM]
  split
  ·rfl
  ·split
   ·rfl
   ·dsimp only
    simp only [ek,xU,xS,oM,tM]
    rfl
 ·unfold qQ
  rw [xR]
  split
  ·rfl
  ·dsimp only
   simp only [ek,xS,oM]
   rfl
 ·unfold qO
  rw [xR]
  split
  ·rfl
  ·simp only [xS,gN,oM]
   rfl
 ·unfold qP
  rw [qv]
  split
  ·rfl
  ·dsimp only
   rw [oM]
   (repeat' split) <;> rfl
 ·unfold mH
  rw [qv]
  split
  ·rfl
  ·dsimp only
   rw [oM]
   split <;> rfl
 ·rfl
 ·rfl
 ·unfold kf
  rw [tM]
  split
  ·rfl
  ·dsimp only
   rw [xV]
   (repeat' split) <;> rfl
 ·unfold xE
  rw [vF]
  split <;> rfl
 ·rfl
 ·unfold pG
  rw [CJ]
  split
  ·exact congrArg (fun z=>(z,true)) (ek s e _ 11)
  ·rfl
theorem GZ (s : IW) (e : List Ex) (k : Nat) (x : Ev) : ia (s.ev e) k x = (ia s k x).ev e:=by
 unfold ia
 have h1 : ({ s.ev e with at_:=(k : Int) } : IW) = ({ s with at_:=(k : Int) } : IW).ev e:=rfl
 dsimp only
 rw [h1]
 generalize ({ s with at_:=(k : Int) } : IW) = s0
 have h2 : fc (s0.ev e) x = (fc s0 x).ev e:=by
  unfold fc
  rw [ek]; rfl
 rw [h2,GY]
 unfold tD Zv
 dsimp only
 rw [ek]
 rfl
theorem xX (s : IW) (e : List Ex) (l : List Ex) : ∀ k,eG (s.ev e) l k = (eG s l k).ev e
 | 0=>rfl
 | k + 1=>by
   cases he : l[k]? with
   | some x=>rw [j4 he,j4 he,xX s e l k,GZ]
   | none=>rw [kO he,kO he,xX s e l k]
theorem vI (s : IW) (l : List Ex) (m : Nat) : ∀ k,k <= m -> eG s (l.take m) k = eG s l k
 | 0,_=>rfl
 | k + 1,h=>by
   have ih:=vI s l m k (by omega)
   have e : (l.take m)[k]? = l[k]?:=by rw [List.getElem?_take]; simp; omega
   cases he : l[k]? with
   | some x=>rw [j4 he,j4 (e.trans he),ih]
   | none=>rw [kO he,kO (e.trans he),ih]
def lL (L : List fb) (most : Int) (l : List Ex) : List (Int × Int):=(eG (ft L most l) l l.length).aG
theorem Ef (L : List fb) (most : Int) (l : List Ex) (k : Nat) (hk : k <= l.length) : ∃ G,lL L most l = lL L most (l.take k) ++ G /\ (∀ f,f ∈ lL L most (l.take k) -> f.2 < k) /\ ∀ f,f ∈ G -> (k : Int) <= f.2:=by
 obtain ⟨G,h1,h2,h3⟩:=qu (gi L most l).inv l k (l.length - k)
 rw [show k + (l.length - k) = l.length by omega] at h1
 have e : lL L most (l.take k) = (eG (ft L most l) l k).aG:=by
  unfold lL
  have h4 : ft L most (l.take k) = (ft L most l).ev (l.take k):=rfl
  rw [h4,xX]
  show (eG (ft L most l) (l.take k) _).aG = _
  rw [List.length_take,Nat.min_eq_left hk,vI _ _ _ _ (Nat.le_refl _)]
 refine ⟨G,by rw [e]; exact h1,fun f hf=>?_,fun f hf=>(h3 f hf).1⟩
 rw [e] at hf
 exact ((CH L most l l k).2 f hf).2.1
theorem Ha (L : List fb) (most : Int) (l : List Ex) : (lL L most l).Pairwise W8 /\ ∀ f,f ∈ lL L most l -> 0 <= f.2 /\ f.2 < l.length /\ 1 <= f.1 /\ f.1 <= 13:=CH L most l l l.length
def q0 (L : List fb) (most : Int) (want : List Int) (l : List Ex) : Bool:=(ff L most l).2 && decide ((ff L most l).1 = want)
def Lm (L : List fb) (most : Int) (l : List Ex) : List Int:=(ff L most l).1
def OF (L : List fb) (most : Int) (l : List Ex) : List Ex:=tJ (q0 L most (Lm L most l)) l.length l
def mO (L : List fb) (most : Int) (l : List Ex) : List Ex × Int :=
 if (bF L most l).2 ≠ 0 then ([],(bF L most l).2)
 else match lL L most l with
  | []=>([],4)
  | f :: _=>if 60 <= f.2 then ([],3) else (OF L most (l.take (f.2.toNat + 1)),0)
theorem Bv {a B G : List (Int × Int)} {t : Int} (ha : a = B ++ G) (hB : ∀ f,f ∈ B -> f.2 = t) (hG : ∀ f,f ∈ G -> t < f.2) : (a.takeWhile fun f=>f.2 == t) = B:=by
 subst ha
 rw [List.takeWhile_append_of_pos (by intro f hf; simp [hB f hf])]
 cases G with
 | nil=>simp
 | cons g G =>
   have:=hG g (by simp)
   rw [List.takeWhile_cons_of_neg (by simp; omega)]
   simp
theorem zO {L : List fb} {most : Int} {l : List Ex} {f : Int × Int} {t : List (Int × Int)} (h : lL L most l = f :: t) : ∃ k : Nat,f.2 = k /\ k < l.length /\ (lL L most (l.take (k + 1))) = (lL L most l).takeWhile (fun g=>g.2 == f.2) /\ (∀ g,g ∈ lL L most (l.take (k + 1)) -> g.2 = f.2) /\ f ∈ lL L most (l.take (k + 1)):=by
 obtain ⟨h1,h2⟩:=Ha L most l
 have hf:=h2 f (by rw [h]; simp)
 obtain ⟨k,hk⟩ : ∃ k : Nat,f.2 = k:=⟨f.2.toNat,by omega⟩
 obtain ⟨G,g1,g2,g3⟩:=Ef L most l (k + 1) (by omega)
 have ue : ∀ g,g ∈ lL L most l -> f.2 <= g.2:=fun g hg=>by
  rw [h] at hg h1
  rcases List.mem_cons.1 hg with rfl | hg
  ·exact Int.le_refl _
  ·rcases (List.pairwise_cons.1 h1).1 g hg with h3 | h3 <;> omega
 have hB : ∀ g,g ∈ lL L most (l.take (k + 1)) -> g.2 = f.2:=fun g hg=>by
  have h3:=ue g (by rw [g1]; exact List.mem_append_left _ hg)
  have h4:=g2 g hg
  omega
 refine ⟨k,hk,by omega,(Bv g1 hB fun g hg=>by have:=g3 g hg; omega).symm,hB,?_⟩
 have hm : f ∈ lL L most l:=by rw [h]; simp
 rw [g1] at hm
 rcases List.mem_append.1 hm with h5 | h5
 ·exact h5
 ·have:=g3 f h5; omega
def l6 (k : Int) (call conn t jQ n : Int) (yes : Bool) : Ex:=⟨⟨k,0,t,call,conn,jQ,n,yes⟩,0⟩
def yo : List fb:=[⟨1,1,10,100⟩]
def Bw : List Ex:=[l6 1 1 0 0 0 0 true,l6 2 1 0 0 0 0 false,l6 5 1 0 1 0 0 false,l6 7 1 7 2 0 0 true,l6 9 1 7 3 0 20 false,l6 10 1 7 4 1 30 false,l6 11 1 7 4 0 0 true,l6 12 0 7 5 0 0 false]
def tN : List Ex:=Bw ++ [l6 1 2 0 15 0 0 false,l6 2 2 0 15 0 0 false,l6 8 2 7 15 0 0 false]
def tO : List Ex:=Bw ++ [l6 18 0 0 6 0 0 false,l6 19 0 0 6 0 0 false]
theorem ex5 : mO yo 1 tO = ([l6 1 1 0 0 0 0 true,l6 18 0 0 6 0 0 false,l6 19 0 0 6 0 0 false],0):=by decide
def vJ (c : IC) : V:=.agg [iI c.num,iI c.bk,iI c.aU,iI c.born,iI c.gone,iI c.bK,iI c.read]
def kx (L : List fb) (most : Int) (l : List Ex) : List IC × Int:=if (bF L most l).2 = 0 then ((eG (ft L most l) l l.length).ak,0) else ([],(bF L most l).2)
theorem JN (L : List fb) (most : Int) (l : List Ex) (hL : L.length <= 1000000) (hl : l.length <= 4000000000000000000) (bp : ∀ e,e ∈ l -> NE e) (bx : aa) : aw prog 18 [eF L most l] bx fun r bx'=>bx' = bx /\ ∃ v,Bp 7 ((kx L most l).1.map vJ) v /\ r = .dh [v,iI (kx L most l).2]:=by
 obtain ⟨Kc,fe⟩ : ∃ Kc : V -> aa -> Prop,Kc = fun r bx'=>bx' = bx /\ ∃ v,Bp 7 ((kx L most l).1.map vJ) v /\ r = .dh [v,iI (kx L most l).2]:=⟨_,rfl⟩
 rw [<- fe]
 refine UM fun hf=>?_
 have hc:=xO L most l hL hl bx
 have hr:=GP L most l
 have hg:=fR (gi L most l) l.length
 unfold kx at fe
 have uF:=jK (L:=L) (most:=most) (l:=l)
 obtain ⟨c,HR⟩ : ∃ c,bF L most l = c:=⟨_,rfl⟩
 rw [HR] at hc fe uF
 obtain ⟨s,hs⟩ : ∃ s,eG (ft L most l) l l.length = s:=⟨_,rfl⟩
 rw [hs] at hr fe hg
 obtain ⟨lv,GQ⟩ : ∃ lv,eF L most l = lv:=⟨_,rfl⟩
 have wz : lv.strip = lv /\ lv.ax = true /\ okV lv = true /\ lv.cells.length = 3 /\ V.agg (List.take 3 lv.cells) = lv:=by rw [<- GQ]; exact ⟨rfl,rfl,rfl,rfl,rfl⟩
 obtain ⟨v1,v2,v3,v4,v5⟩:=wz
 rw [GQ] at hc hr ⊢
 simp [go_sem,C18,hf,v1,v2,v3,v4,v5]
 refine ag hc ?_
 by_cases e0 : c.2 = 0
 rotate_left
 ·rw [if_neg e0] at fe
  simp [go_sem,hf,iI,e0]
  refine az (by simp [go_sem]) ?_
  rw [fe]
  exact ⟨rfl,.aI,.inr ⟨rfl,rfl⟩,by simp [go_sem,iI]⟩
 rw [if_pos e0] at fe
 obtain ⟨q1,q2,q3,q4,q5,q6,q7⟩:=uF e0
 simp [go_sem,hf,v1,v2,v3,v4,v5,iI,e0]
 refine an (hr (by omega) q6 (fun e he=>tH (q7 e he) (bp e he)) bx) ?_
 rintro r bM ⟨p,ad,rfl,hp,hw⟩
 obtain ⟨pb,pc,pr,pm,pw',hn⟩:=hw.names hp
 have aq:=hw.row hn
 unfold il at aq
 have bg:=hw.fin
 have ho:=hw.Wd
 have Lc:=hw.Zm hn
 have Rl:=fun i (hi : i < s.ak.length)=>hw.E2 hi
 have jg:=hw.ext
 have W9:=hg.inv.ord
 have adn:=hg.inv.nU
 have jn:=hg.ak
 have Oo : s.ord.length = s.ak.length:=by rw [W9,List.length_map]
 have hlen:=fun bx2=>fP (bx2:=bx2) (t:=60) ho mA
 simp [go_sem,ho.strip,ho.live] at hlen
 simp [go_sem,bg,aq,ho.strip,ho.live,hlen]
 cases hc : ad .ord with
 | none =>
   have h0 : s.ord = []:=hw.none_ .ord hc trivial
   have hC0 : s.ak = []:=by rw [h0] at Oo; exact List.length_eq_zero_iff.1 Oo.symm
   simp only [h0,j3,List.length_nil]
   refine ct 0 (fun k=>⟨43,bR [(6,.ptr p 13 0 0),(7,.aI),(23,.aI),(24,.int .i64 0),(25,.int .i64 0)],bM⟩) (al (by simp [go_sem,iI])) (fun k hk N hN=>by omega) (fun N=>?_)
   simp [go_sem,Ce,bg]
   refine bC (by simp [go_sem]) jg ?_
   rw [fe,hC0]
   exact ⟨rfl,.aI,.inr ⟨rfl,rfl⟩,by simp [go_sem,iI]⟩
 | some b =>
   obtain ⟨dD,Af,_⟩:=hw.at_ .ord b hc
   have Af : bM b = some (.row 2 1 (s.ord.map iI)):=Af
   have yD:=fun k (hk : k < s.ak.length)=>sf s s.ak[k].num ad
   clear hlen ho
   simp only [j3]
   refine ji (ι:=V × aa) s.ak.length (fun k q=>bj q.2 /\ Ext bM q.2 /\ bd q.2 77 7 ((s.ak.take k).map vJ) q.1 /\ ll bM q.1) (fun k q=>⟨43,bR [(6,.ptr p 13 0 0),(7,q.1),(23,.own b 1 0 s.ord.length),(24,.int .i64 s.ord.length),(25,.int .i64 k)],q.2⟩) (.aI,bM) ⟨bg,Ext.refl _,.inl ⟨rfl,rfl⟩,(show ll bM .aI from fun b sz o m e=>by cases e)⟩ (al (by simp [go_sem,iI])) (fun k q hk hJ N hN=>?_) (fun q hJ N=>?_)
   ·obtain ⟨v,bx2⟩:=q
    obtain ⟨da,di,ho,xz⟩:=hJ
    dsimp only at da di ho xz ⊢
    have jd:=bt (k:=k) (by omega)
    have wA : k < s.ord.length:=by omega
    have r1:=(di p (by rw [aq]; simp)).trans aq
    have r2:=(di b (by rw [Af]; simp)).trans Af
    have r3:=(di pc (by rw [Lc]; simp)).trans Lc
    obtain ⟨bc,Lk,hrc⟩:=Rl k hk
    have r4:=(di bc (by rw [hrc]; simp)).trans hrc
    have hfk:=yD k hk
    have ado : (s.ak.map (·.num)).findIdx? (· == s.ak[k].num) = some k:=by
     rw [List.findIdx?_eq_some_iff_getElem]
     refine ⟨by simpa using hk,by simp,fun j hj=>?_⟩
     have:=List.nodup_iff_pairwise_ne.1 adn
     rw [List.pairwise_iff_getElem] at this
     have:=this j k (by rw [List.length_map]; omega) (by simpa using hk) hj
     simpa using this
    rw [ado] at hfk
    simp only [Option.map_some,dE Lk] at hfk
    have cY : s.ord[k] = s.ak[k].num:=by simp [W9]
    simp [go_sem,Ce,hk,wA,da,r1,r2,r3,r4,iI,cY,hfk,pS,ho.strip,ho.live,ho.cells,ho.okV]
    intro b7 Ec
    have QF:=ho.beside Ec (some (bI.row 77 7 [V.agg [V.int .i64 s.ak[k].num,V.int .i64 s.ak[k].bk,V.int .i64 s.ak[k].aU,V.int .i64 s.ak[k].born,V.int .i64 s.ak[k].gone,V.int .i64 s.ak[k].bK,V.int .i64 s.ak[k].read]]))
    have adp : bM b7 = none:=di.none Ec
    have Ll : bj (aA bx2 b7 (some (bI.row 77 7 [V.agg [V.int .i64 s.ak[k].num,V.int .i64 s.ak[k].bk,V.int .i64 s.ak[k].aU,V.int .i64 s.ak[k].born,V.int .i64 s.ak[k].gone,V.int .i64 s.ak[k].bK,V.int .i64 s.ak[k].read]]))):=(ar _ _ _).2 da
    have OD : Ext bM (aA bx2 b7 (some (bI.row 77 7 [V.agg [V.int .i64 s.ak[k].num,V.int .i64 s.ak[k].bk,V.int .i64 s.ak[k].aU,V.int .i64 s.ak[k].born,V.int .i64 s.ak[k].gone,V.int .i64 s.ak[k].bK,V.int .i64 s.ak[k].read]]))):=di.aN adp _
    have GR : aA bx2 b7 (some (bI.row 77 7 [V.agg [V.int .i64 s.ak[k].num,V.int .i64 s.ak[k].bk,V.int .i64 s.ak[k].aU,V.int .i64 s.ak[k].born,V.int .i64 s.ak[k].gone,V.int .i64 s.ak[k].bK,V.int .i64 s.ak[k].read]])) b7 = (some (bI.row 77 7 [V.agg [V.int .i64 s.ak[k].num,V.int .i64 s.ak[k].bk,V.int .i64 s.ak[k].aU,V.int .i64 s.ak[k].born,V.int .i64 s.ak[k].gone,V.int .i64 s.ak[k].bK,V.int .i64 s.ak[k].read]])):=af _ _ _
    generalize aA bx2 b7 (some (bI.row 77 7 [V.agg [V.int .i64 s.ak[k].num,V.int .i64 s.ak[k].bk,V.int .i64 s.ak[k].aU,V.int .i64 s.ak[k].born,V.int .i64 s.ak[k].gone,V.int .i64 s.ak[k].bK,V.int .i64 s.ak[k].read]])) = bx3 at *
    refine ey (.agg #[.int .i64 0,.int .i64 0,.int .i64 0,.int .i64 0,.int .i64 0,.int .i64 0,.int .i64 0]) QF Ll (news:=[vJ s.ak[k]]) KO KT (by simp [go_sem,bP,GR,iI,vJ]) Cc (by simp [go_sem]) (by decide) (by simp [KU]; omega) (by simp; omega) (by simp [go_sem]) fun v' bx' ha hm _=>?_
    obtain ⟨e1,e2⟩:=hm.base OD xz
    have fA : bd bx' 77 7 ((s.ak.take (k + 1)).map vJ) v':=by
     rw [List.take_succ_eq_append_getElem hk,List.map_append]; exact ha
    simp [go_sem,hm.fin,ha.strip,ha.live,ha.cells,ha.okV,jd]
    exact hN _ (v',bx') ⟨hm.fin,e1,fA,e2⟩ (al (by simp [go_sem,iI]))
   ·obtain ⟨v,bx2⟩:=q
    obtain ⟨da,di,ho,xz⟩:=hJ
    dsimp only at da di ho xz ⊢
    rw [List.take_of_length_le (Nat.le_refl _)] at ho
    have ue : ¬ (s.ak.length : Int) < s.ord.length:=by omega
    simp [go_sem,Ce,da,ho.strip,ho.live,ue,Oo]
    refine fO 2 (by simp [go_sem,ho.strip,ho.live]) (jg.trans di) ?_
    have e4 : dA bx2 bx 2 (kq prog ⟨43,bR [(2,v),(3,.int .i64 0)],bx2⟩ [.tmp 2,.tmp 3]) = .dh [dA bx2 bx 1 v,.int .i64 0]:=by simp [go_sem,dA,ho.strip]
    rw [e4,fe]
    refine ⟨rfl,_,?_,rfl⟩
    rcases ho with ⟨h0,rfl⟩ | ⟨b3,rfl,rG⟩
    ·exact .inr ⟨h0,rfl⟩
    ·exact .inl (gb rG (jg.none (xz _ _ _ _ rfl)) (by decide) rfl)
def xY (L : List fb) (most : Int) (z : List Ex × Int) : V:=if z.2 = 0 then eF L most z.1 else .agg [.aI,iI 0,.aI]
theorem Hb {L : List fb} {most : Int} {l : List Ex} (h : (bF L most l).2 = 0) : eH L most l = (lL L most l,0):=by
 unfold eH; rw [if_pos h]; rfl
theorem WA (L : List fb) (most : Int) (l : List Ex) (hL : L.length <= 1000000) (hl : l.length <= 4000000000000000000) (bp : ∀ e,e ∈ l -> NE e) (bx : aa) : ay prog 21 [eF L most l] bx (.dh [xY L most (mO L most l),iI (mO L most l).2]):=by
 obtain ⟨Kc,fe⟩ : ∃ Kc : V -> aa -> Prop,Kc = fun r bx'=>r = .dh [xY L most (mO L most l),iI (mO L most l).2] /\ bx' = bx:=⟨_,rfl⟩
 show aw _ _ _ _ (fun r bx'=>r = .dh [xY L most (mO L most l),iI (mO L most l).2] /\ bx' = bx)
 rw [<- fe]
 refine UP fun hf=>?_
 have fE : ∀ z,mO L most l = z -> Kc (.dh [xY L most z,iI z.2]) bx:=fun z hz=>by rw [fe,hz]; exact ⟨rfl,rfl⟩
 have hF:=xP L most l hL hl bp
 have hE : ∀ (b : Nat) (x : bI),bx b = none -> Ext bx (aA bx b (some x)):=fun b x hb=>(Ext.refl bx).aN hb _
 simp [go_sem,C21,hf,eF]
 intro b2 c9
 by_cases uF : (bF L most l).2 = 0
 rotate_left
 ·have hz : mO L most l = ([],(bF L most l).2):=by unfold mO; rw [if_pos uF]
  have hf0 : eH L most l = ([],(bF L most l).2):=by unfold eH; rw [if_neg uF]
  rw [hf0] at hF
  refine ag (hF _) ?_
  simp [go_sem,hf,iI,uF,af,ar]
  refine bC (by simp [go_sem,af]) (hE _ _ c9) ?_
  have:=fE _ hz
  simpa [go_sem,af,xY,uF,iI] using this
 rw [Hb uF] at hF
 refine ag (hF _) ?_
 cases tY : lL L most l with
 | nil =>
   have hz : mO L most l = ([],4):=by unfold mO; rw [if_neg (by simpa using uF),tY]
   simp [go_sem,hf,iI,af,ar]
   refine bC (by simp [go_sem,af]) (hE _ _ c9) ?_
   have:=fE _ hz
   simpa [go_sem,af,xY,iI] using this
 | cons f t =>
   by_cases h60 : 60 <= f.2
   ·have hz : mO L most l = ([],3):=by unfold mO; rw [if_neg (by simpa using uF),tY]; dsimp only; rw [if_pos h60]
    have hg : ¬ ((t.length : Int) + 1 = 0):=by omega
    simp [go_sem,hf,iI,af,ar,bH,h60,hg]
    refine bC (by simp [go_sem,af]) (hE _ _ c9) ?_
    have:=fE _ hz
    simpa [go_sem,af,xY,iI] using this
   have hz : mO L most l = (OF L most (l.take (f.2.toNat + 1)),0):=by unfold mO; rw [if_neg (by simpa using uF),tY]; dsimp only; rw [if_neg h60]
   obtain ⟨q1,q2,q3,q4,q5,q6,q7⟩:=jK uF
   obtain ⟨m,hm,WT,-⟩:=zO tY
   rw [hm] at h60
   have hg : ¬ ((t.length : Int) + 1 = 0):=by omega
   rw [show f.2.toNat = m by omega] at hz
   have hw : IntKind.i64.wrap ((m : Int) + 1) = ((m + 1 : Nat) : Int):=bt (by omega)
   have hN1 : (((m + 1 : Nat) : Int)).toNat = m + 1:=by omega
   simp [go_sem,hf,iI,af,ar,bH,hm,h60,hg]
   refine ag (GV (L.map bT) (by simp; omega) _) ?_
   simp [go_sem,hf,iI,af,ar,bH,hm,h60,hg,hw]
   rw [<- List.map_take]
   obtain ⟨O,hO⟩ : ∃ O,l.take (m + 1) = O:=⟨_,rfl⟩
   rw [hO] at hz ⊢
   have hOl : O.length = m + 1:=by rw [<- hO,List.length_take]; omega
   have hOm : ∀ e,e ∈ O -> VE L.length e:=fun e he=>by
    rw [<- hO] at he
    have:=List.mem_of_mem_take he
    exact tH (q7 e this) (bp e this)
   refine ⟨by omega,ag (GU (O.map fY) (by simp; omega) _) ?_⟩
   simp [go_sem,hf,iI,af,ar]
   intro b6 hb6
   have n26 : b2 ≠ b6:=by rintro rfl; simp [af] at hb6
   have WB : bx b6 = none:=by rwa [ae _ _ (Ne.symm n26)] at hb6
   have hK : ∀ o : List Ex,(∀ e,e ∈ o -> e ∈ O) -> o.length <= O.length -> ∀ bx',ay prog 43 [.agg [.sl 4 (L.map bT),.int .i64 most,.sl 8 (o.map fY)]] bx' (.dh [.sl 1 ((ff L most o).1.map iI),.bool (ff L most o).2]):=fun o h1 h2 bx'=>JJ L most o (by omega) (by omega) (fun e he=>hOm e (h1 e he)) bx'
   refine ag (hK O (fun _ h=>h) (Nat.le_refl _) _) ?_
   obtain ⟨want,Hc⟩ : ∃ want,(ff L most O).1 = want:=⟨_,rfl⟩
   have hzR : mO L most l = (tJ (q0 L most want) O.length O,0):=by rw [hz]; unfold OF Lm; rw [Hc]
   rw [Hc]
   obtain ⟨R,hR⟩ : ∃ R,tJ (q0 L most want) O.length O = R:=⟨_,rfl⟩
   rw [hR] at hzR
   have hKR:=fE _ hzR
   clear fE hF
   have qS : want.length <= 100000:=by
    rw [<- Hc]
    unfold ff mN
    have hg:=(fR (gi L most O) O.length).aG
    split
    ·simp
    ·simp; omega
   simp [go_sem,hf,iI,af,ar]
   refine rS (ι:=Nat × Nat × List Ex × aa) (fun i=>(bj i.2.2.2 /\ Ext bx i.2.2.2 /\ i.2.2.2 b2 = some (.row 25 3 [.agg [.aI,.int .i64 0,.aI]]) /\ i.2.2.2 b6 = some (.row 25 3 [.agg [.sl 4 (L.map bT),.int .i64 most,.sl 8 (i.2.2.1.map fY)]])) /\ ((∀ e,e ∈ i.2.2.1 -> e ∈ O) /\ i.2.2.1.length <= O.length /\ 1 <= i.2.2.1.length) /\ ((i.1 = i.2.2.1.length /\ i.2.2.1 = R) \/ (i.1 ≠ i.2.2.1.length /\ i.2.2.1.length <= i.2.1 /\ tJ (q0 L most want) i.2.1 i.2.2.1 = R)))
    (fun i=>⟨92,bR [(2,.ptr b2 3 0 0),(6,.ptr b6 3 0 0),(7,.sl 1 (want.map iI)),(9,.int .i64 i.1)],i.2.2.2⟩) (fun i=>if i.1 = i.2.2.1.length then 0 else i.2.1) (0,O.length,O,aA (aA bx b2 (some (.row 25 3 [.agg [.aI,.int .i64 0,.aI]]))) b6 (some (.row 25 3 [.agg [.sl 4 (L.map bT),.int .i64 most,.sl 8 (O.map fY)]]))) ⟨⟨(ar _ _ _).2 ((ar _ _ _).2 hf),(hE b2 _ c9).aN WB _,by dsimp only; rw [ae _ _ n26,af],af _ _ _⟩,⟨fun _ h=>h,Nat.le_refl _,by dsimp only; omega⟩,.inr ⟨by dsimp only; omega,Nat.le_refl _,hR⟩⟩ (al (by simp [go_sem,iI])) ?_
   rintro ⟨bf,fu,out,bM⟩ ⟨⟨bg,jg,z6,HS⟩,⟨hom,Oo,cm⟩,hor⟩
   dsimp only at bg jg z6 HS hom Oo cm hor ⊢
   rcases hor with ⟨rfl,rfl⟩ | ⟨u9,hfu,wz⟩
   ·simp [go_sem,FI,bg,HS,z6]
    refine bC (by simp [go_sem,af]) (jg.aN c9 _) ?_
    simpa [go_sem,af,xY,iI,eF] using hKR
   ·have AH : ¬ ((bf : Int) = (out.length : Int)):=by omega
    obtain ⟨N0,hN0⟩ : ∃ N0,out.length = N0 + 1:=⟨out.length - 1,by omega⟩
    have Zw : IntKind.i64.wrap ((out.length : Int) - 2) = (N0 : Int) - 1 - ((0 : Nat) : Int):=by rw [ij (by omega)]; omega
    obtain ⟨P,hP⟩ : ∃ P,lF (q0 L most want) N0 out = P:=⟨_,rfl⟩
    have hPl:=vA (q0 L most want) N0 out (by omega)
    rw [hP] at hPl
    have hPs : ∀ e,e ∈ P -> e ∈ O:=fun e he=>hom e ((vB (q0 L most want) N0 out).subset (by rw [hP]; exact he))
    obtain ⟨fu',rfl⟩ : ∃ fu',fu = fu' + 1:=⟨fu - 1,by omega⟩
    have JO : if P.length = out.length then P = R else tJ (q0 L most want) fu' P = R:=by
     unfold tJ at wz
     rw [show out.length - 1 = N0 by omega,hP] at wz
     split
     ·rename_i h; rw [if_pos h] at wz; exact wz
     ·rename_i h; rw [if_neg h] at wz; exact wz
    simp [go_sem,FI,bg,HS,z6,AH]
    rw [Zw]
    refine ji (ι:=List Ex × aa) N0 (fun j q=>(bj q.2 /\ Ext bx q.2 /\ q.2 b2 = some (.row 25 3 [.agg [.aI,.int .i64 0,.aI]]) /\ q.2 b6 = some (.row 25 3 [.agg [.sl 4 (L.map bT),.int .i64 most,.sl 8 (q.1.map fY)]])) /\ (∀ e,e ∈ q.1 -> e ∈ O) /\ q.1.length <= O.length /\ N0 - j < q.1.length /\ lF (q0 L most want) (N0 - j) q.1 = P)
     (fun j q=>⟨92,bR [(2,.ptr b2 3 0 0),(6,.ptr b6 3 0 0),(7,.sl 1 (want.map iI)),(9,.int .i64 out.length),(10,.int .i64 ((N0 : Int) - 1 - (j : Int)))],q.2⟩) (out,bM) ⟨⟨bg,jg,z6,HS⟩,hom,Oo,by dsimp only; omega,hP⟩ (al (by simp [go_sem,iI])) (fun j q hj hJ N hN=>?_) (fun q hJ N=>?_)
    ·obtain ⟨o,bx2⟩:=q
     obtain ⟨⟨da,di,jN,Ln⟩,hoo,hoL,lZ,JP⟩:=hJ
     dsimp only at da di jN Ln hoo hoL lZ JP ⊢
     obtain ⟨k,hk⟩ : ∃ k,N0 - j = k + 1:=⟨N0 - j - 1,by omega⟩
     have e10 : (N0 : Int) - 1 - (j : Int) = (k : Int):=by omega
     have e11 : (N0 : Int) - 1 - ((j + 1 : Nat) : Int) = (k : Int) - 1:=by omega
     have jd : IntKind.i64.wrap ((k : Int) - 1) = (k : Int) - 1:=ij (by omega)
     have QG : IntKind.i64.wrap ((k : Int) + 1) = (k : Int) + 1:=ij (by omega)
     rw [e10]
     have EY : (0 : Int) <= (k : Int):=by omega
     simp [go_sem,FH,da,Ln,jN,EY]
     intro b11 hb11
     have n6 : b6 ≠ b11:=by rintro rfl; rw [Ln] at hb11; cases hb11
     have n2 : b2 ≠ b11:=by rintro rfl; rw [jN] at hb11; cases hb11
     have CK : bx b11 = none:=di.none hb11
     have lu : bj (aA bx2 b11 (some (bI.row 25 3 [V.agg [V.sl 4 (List.map bT L),V.int IntKind.i64 most,V.sl 8 (List.map fY o)]]))):=(ar _ _ _).2 da
     have pD : Ext bx (aA bx2 b11 (some (bI.row 25 3 [V.agg [V.sl 4 (List.map bT L),V.int IntKind.i64 most,V.sl 8 (List.map fY o)]]))):=di.aN CK _
     have HS : aA bx2 b11 (some (bI.row 25 3 [V.agg [V.sl 4 (List.map bT L),V.int IntKind.i64 most,V.sl 8 (List.map fY o)]])) b6 = _:=(ae _ _ n6).trans Ln
     have z6 : aA bx2 b11 (some (bI.row 25 3 [V.agg [V.sl 4 (List.map bT L),V.int IntKind.i64 most,V.sl 8 (List.map fY o)]])) b2 = _:=(ae _ _ n2).trans jN
     have JQ : aA bx2 b11 (some (bI.row 25 3 [V.agg [V.sl 4 (List.map bT L),V.int IntKind.i64 most,V.sl 8 (List.map fY o)]])) b11 = _:=af _ _ _
     generalize aA bx2 b11 (some (bI.row 25 3 [V.agg [V.sl 4 (List.map bT L),V.int IntKind.i64 most,V.sl 8 (List.map fY o)]])) = bx3 at *
     simp [go_sem,HS,lu]
     refine an (GS (o.map fY) (by simp; omega) bx3) ?_
     intro v bx4 ha
     have hoe : o.map fY ≠ []:=by intro h0; rw [List.map_eq_nil_iff] at h0; rw [h0] at lZ; simp at lZ
     rcases ha.is with ⟨h0,_⟩ | ⟨c,AL,rfl,hc4⟩
     ·exact absurd h0 hoe
     have BY : Ext bx bx4:=pD.trans ha.ext
     have k6 : bx4 b6 = _:=(ha.ext b6 (by rw [HS]; simp)).trans HS
     have k2 : bx4 b2 = _:=(ha.ext b2 (by rw [z6]; simp)).trans z6
     have k11 : bx4 b11 = _:=(ha.ext b11 (by rw [JQ]; simp)).trans JQ
     have nR:=ha.fin
     have m6 : b6 ≠ c:=by rintro rfl; rw [HS] at AL; cases AL
     have m2 : b2 ≠ c:=by rintro rfl; rw [z6] at AL; cases AL
     have m11 : b11 ≠ c:=by rintro rfl; rw [JQ] at AL; cases AL
     have Aa : bx c = none:=pD.none AL
     clear ha
     simp [go_sem,nR,QG]
     have hd:=Bt (i:=k) hc4 (by simp; omega)
     have ed : (o.map fY).take k ++ (o.map fY).drop (k + 1) = (dU o k).map fY:=by unfold dU; rw [List.map_append,List.map_take,List.map_drop]
     rw [ed,List.length_map] at hd
     refine an hd ?_
     rintro r kd ⟨rfl,Eg⟩
     have pE : bj kd:=by rw [Eg]; exact (ar _ _ _).2 nR
     have JD : Ext bx kd:=by rw [Eg]; exact BY.aN Aa _
     have j6 : kd b6 = bx4 b6:=by rw [Eg,ae _ _ m6]
     rw [k6] at j6
     have j2 : kd b2 = bx4 b2:=by rw [Eg,ae _ _ m2]
     rw [k2] at j2
     have j11 : kd b11 = bx4 b11:=by rw [Eg,ae _ _ m11]
     rw [k11] at j11
     clear Eg k6 k2 k11 HS z6 JQ lu nR pD BY hc4
     have n611 : b6 ≠ b11:=n6
     simp [go_sem,pE,j11,af]
     have hDl:=tK (l:=o) (k:=k) (by omega)
     have hDm : ∀ e,e ∈ dU o k -> e ∈ O:=fun e he=>hoo e ((tL o k).subset he)
     refine ag (hK (dU o k) hDm (by omega) _) ?_
     have Eh : lF (q0 L most want) k (pO (q0 L most want) o k) = P:=by rw [hk] at JP; exact JP
     have pR : N0 - (j + 1) = k:=by omega
     cases yE : (ff L most (dU o k)).2
     ·have ht : pO (q0 L most want) o k = o:=by unfold pO q0; rw [yE]; rfl
      rw [ht] at Eh
      simp [go_sem,pE,j11,af,ar]
      refine jI (.bool false) (by simp [go_sem]) ?_
      simp [go_sem,pE,j11,af,ar,jd]
      have mP:=fun s=>hN s (o,aA kd b11 (some (.row 25 3 [.agg [.sl 4 (L.map bT),.int .i64 most,.sl 8 ((dU o k).map fY)]]))) ⟨⟨(ar _ _ _).2 pE,JD.aN CK _,by dsimp only; rw [ae _ _ n2,j2],by dsimp only; rw [ae _ _ n6,j6]⟩,hoo,hoL,by dsimp only; omega,by rw [pR]; exact Eh⟩
      dsimp only at mP
      rw [e11] at mP
      exact mP _ (al (by simp [go_sem,iI]))
     ·have Dy : (ff L most (dU o k)).1.length <= 100000:=by
       unfold ff mN
       have hg:=(fR (gi L most (dU o k)) (dU o k).length).aG
       split
       ·simp
       ·simp; omega
      simp [go_sem,pE,j11,af,ar]
      refine dn (JK _ want (by omega) _) (by simp) (by simp [go_sem]) ?_
      by_cases hq : (ff L most (dU o k)).1 = want
      ·have ht : pO (q0 L most want) o k = dU o k:=by unfold pO q0; rw [yE,decide_eq_true hq]; rfl
       rw [ht] at Eh
       simp [go_sem,pE,j11,af,ar,hq,ae _ _ n6,j6,jd]
       have mP:=fun s=>hN s (dU o k,aA (aA kd b11 (some (.row 25 3 [.agg [.sl 4 (L.map bT),.int .i64 most,.sl 8 ((dU o k).map fY)]]))) b6 (some (.row 25 3 [.agg [.sl 4 (L.map bT),.int .i64 most,.sl 8 ((dU o k).map fY)]]))) ⟨⟨(ar _ _ _).2 ((ar _ _ _).2 pE),(JD.aN CK _).aN WB _,by dsimp only; rw [ae _ _ n26,ae _ _ n2,j2],af _ _ _⟩,hDm,by dsimp only; omega,by dsimp only; omega,by rw [pR]; exact Eh⟩
       dsimp only at mP
       rw [e11] at mP
       exact mP _ (al (by simp [go_sem,iI]))
      ·have ht : pO (q0 L most want) o k = o:=by unfold pO q0; rw [yE,decide_eq_false hq]; rfl
       rw [ht] at Eh
       simp [go_sem,pE,j11,af,ar,hq,jd]
       have mP:=fun s=>hN s (o,aA kd b11 (some (.row 25 3 [.agg [.sl 4 (L.map bT),.int .i64 most,.sl 8 ((dU o k).map fY)]]))) ⟨⟨(ar _ _ _).2 pE,JD.aN CK _,by dsimp only; rw [ae _ _ n2,j2],by dsimp only; rw [ae _ _ n6,j6]⟩,hoo,hoL,by dsimp only; omega,by rw [pR]; exact Eh⟩
       dsimp only at mP
       rw [e11] at mP
       exact mP _ (al (by simp [go_sem,iI]))
    ·obtain ⟨o,bx2⟩:=q
     obtain ⟨⟨da,di,jN,Ln⟩,hoo,hoL,lZ,JP⟩:=hJ
     dsimp only at da di jN Ln hoo hoL lZ JP ⊢
     rw [Nat.sub_self] at JP
     have JP : o = P:=JP
     subst JP
     have ue : ¬ ((N0 : Int) <= (N0 : Int) - 1):=by omega
     simp [go_sem,FH,da,ue]
     have afn:=hPl
     by_cases he : o.length = out.length
     ·rw [if_pos he] at JO
      exact ⟨(out.length,fu',o,bx2),⟨⟨da,di,jN,Ln⟩,⟨hPs,by dsimp only; omega,by dsimp only; omega⟩,.inl ⟨he.symm,JO⟩⟩,al (by simp [go_sem,iI]),by dsimp only; rw [if_pos he.symm,if_neg u9]; omega⟩
     ·rw [if_neg he] at JO
      exact ⟨(out.length,fu',o,bx2),⟨⟨da,di,jN,Ln⟩,⟨hPs,by dsimp only; omega,by dsimp only; omega⟩,.inr ⟨fun h=>he h.symm,by dsimp only; omega,JO⟩⟩,al (by simp [go_sem,iI]),by dsimp only; rw [if_neg (fun h=>he h.symm),if_neg u9]; omega⟩
structure LF where
 c : Int
 b : Int
 l : Int
 o : Int
 g : Int
 s : Int
 r : Int
deriving DecidableEq
def zP (c : LF) : V:=.agg [iI c.c,iI c.b,iI c.l,iI c.o,iI c.g,iI c.s,iI c.r]
def adq (c : IC) : LF:=⟨c.num,c.bk,c.aU,c.born,c.gone,c.bK,c.read⟩
def en (L : List fb) (most : Int) (l : List Ex) : List LF × Int:=((kx L most l).1.map adq,(kx L most l).2)
theorem CL (L : List fb) (most : Int) (l : List Ex) (hL : L.length <= 1000000) (hl : l.length <= 4000000000000000000) (bp : ∀ e,e ∈ l -> NE e) (bx : aa) : ay prog 18 [eF L most l] bx (.dh [.sl 7 ((en L most l).1.map zP),iI (en L most l).2]):=by
 refine ay.wk ((JN L most l hL hl bp bx).mono ?_)
 rintro r bx' ⟨rfl,v,hv,rfl⟩
 refine ⟨p9 ?_ (Wk.refl _),rfl⟩
 unfold en
 rw [List.map_map]
 exact hv.wk
def Ei (L : List fb) (l : List Ex) (n : Int) : Bool:=decide ((20 : Int) < (L.length : Int)) || (decide (n < (l.length : Int)) && decide ((l.length : Int) <= 2000)) || decide ((2010 : Int) < (l.length : Int))
theorem Lo (L : List fb) (most : Int) (l : List Ex) (n : Int) (bx : aa) : ay prog 11 [eF L most l,.int .i64 n] bx (.bool (Ei L l n)):=by
 refine UF fun hf=>?_
 simp [go_sem,C11,hf,eF,iI]
 refine ⟨fun h1=>⟨h1,fun h2=>⟨h1,h2⟩⟩,fun h1 h2=>⟨h1,?_⟩,?_⟩
 ·by_cases h3 : n < (l.length : Int)
  ·exact .inr (h2 h3)
  ·exact .inl (by omega)
 ·exact az (by simp [go_sem]) ⟨by simp [go_sem,Ei],rfl⟩
theorem CM (a b : List LF) (ha : a.length <= 1000000) (bx : aa) : ay prog 20 [.sl 7 (a.map zP),.sl 7 (b.map zP)] bx (.bool (decide (a = b))):=by
 refine UO fun hf=>?_
 by_cases he : a.length = b.length
 rotate_left
 ·have tX : ¬ (a.length : Int) = b.length:=by omega
  have hz : decide (a = b) = false:=by simp; rintro rfl; exact he rfl
  simp [go_sem,C20,hf,tX,he]
  exact az (by simp [go_sem]) ⟨by simp [go_sem,hz],rfl⟩
 ·have tX : (a.length : Int) = b.length:=by omega
  simp [go_sem,C20,hf,tX,he]
  refine eP a.length (fun i=>a.getD i ⟨0,0,0,0,0,0,0⟩ != b.getD i ⟨0,0,0,0,0,0,0⟩) (fun i=>⟨26,bR [(0,.sl 7 (a.map zP)),(1,.sl 7 (b.map zP)),(5,.int .i64 i)],bx⟩) (al (by simp [go_sem])) (fun i hi hJ N hN=>?_) (fun hJ N=>?_)
  ·have OG : i < b.length:=by omega
   have hw:=bt (k:=i) (by omega)
   have g1 : a.getD i ⟨0,0,0,0,0,0,0⟩ = a[i]:=by simp [hi]
   have g2 : b.getD i ⟨0,0,0,0,0,0,0⟩ = b[i]:=by simp [OG]
   rw [g1,g2] at hN
   by_cases e : a[i] = b[i]
   ·simp [go_sem,Cg,hf,hi,OG,hw,iI,e,zP]
    exact hN _ (by simp [e]) (al (by simp [go_sem]))
   ·have hz : decide (a = b) = false:=by simp; rintro rfl; exact e rfl
    have e2 : ¬ (a[i].c = b[i].c /\ a[i].b = b[i].b /\ a[i].l = b[i].l /\ a[i].o = b[i].o /\ a[i].g = b[i].g /\ a[i].s = b[i].s /\ a[i].r = b[i].r):=by
     rintro ⟨h1,h2,h3,h4,h5,h6,h7⟩
     apply e
     cases ha : a[i]
     cases hb : b[i]
     rw [ha,hb] at h1 h2 h3 h4 h5 h6 h7
     simp_all
    simp [go_sem,Cg,hf,hi,OG,hw,iI,zP]
    refine ⟨fun _=>az (by simp [go_sem]) ⟨by simp [go_sem,hz],rfl⟩,fun h1 h2 h3 h4 h5 h6 h7=>absurd ⟨h1,h2,h3,h4,h5,h6,h7⟩ e2⟩
  ·have hz : a = b:=by
    apply List.ext_getElem he
    intro i h1 h2
    have:=hJ i h1
    simpa [h1,h2] using this
   simp [go_sem,Cg,hf]
   exact az (by simp [go_sem]) ⟨by simp [go_sem,hz],rfl⟩
theorem Ej (bx : aa) : ay prog 31 [] bx (eF yo 1 Bw):=by
 refine ay.wk ?_
 refine UR fun hf=>?_
 simp [go_sem,C31,hf]
 intro b0 h0 b1 h1 b2 h2
 have n01 : b0 ≠ b1:=by rintro rfl; simp [af] at h1
 have n12 : b1 ≠ b2:=by rintro rfl; simp [af] at h2
 have n02 : b0 ≠ b2:=by rintro rfl; simp [af,ae _ _ n01] at h2
 have r9 : bx b1 = none:=by rwa [ae _ _ n01.symm] at h1
 have WC : bx b2 = none:=by rwa [ae _ _ n12.symm,ae _ _ n02.symm] at h2
 simp [go_sem,af,ae _ _ n01,ae _ _ n02]
 refine fO 3 (by simp [go_sem,af]) ((((((Ext.refl bx).aN h0 _).aN r9 _).aN WC _).aN h0 _)) ?_
 refine ⟨?_,rfl⟩
 simp [go_sem,af,dA,ae _ _ n01.symm,ae _ _ n02.symm,ae _ _ n12,r9,WC,eF,yo,Bw,l6,bT,fY,dL,iI]
 exact Wk.refl _
theorem Hd (a b : List (Int × Int)) (ha : a.length <= 1000000) (bx : aa) : ay prog 17 [.sl 2 (a.map bH),.sl 2 (b.map bH)] bx (.bool (decide (a = b))):=by
 refine UL fun hf=>?_
 by_cases he : a.length = b.length
 rotate_left
 ·have tX : ¬ (a.length : Int) = b.length:=by omega
  have hz : decide (a = b) = false:=by simp; rintro rfl; exact he rfl
  simp [go_sem,C17,hf,tX,he]
  exact az (by simp [go_sem]) ⟨by simp [go_sem,hz],rfl⟩
 ·have tX : (a.length : Int) = b.length:=by omega
  simp [go_sem,C17,hf,tX,he]
  refine eP a.length (fun i=>a.getD i (0,0) != b.getD i (0,0)) (fun i=>⟨26,bR [(0,.sl 2 (a.map bH)),(1,.sl 2 (b.map bH)),(5,.int .i64 i)],bx⟩) (al (by simp [go_sem])) (fun i hi hJ N hN=>?_) (fun hJ N=>?_)
  ·have OG : i < b.length:=by omega
   have hw:=bt (k:=i) (by omega)
   have g1 : a.getD i (0,0) = a[i]:=by simp [hi]
   have g2 : b.getD i (0,0) = b[i]:=by simp [OG]
   rw [g1,g2] at hN
   by_cases e : a[i] = b[i]
   ·simp [go_sem,Cd,hf,hi,OG,hw,iI,e,bH]
    exact hN _ (by simp [e]) (al (by simp [go_sem]))
   ·have hz : decide (a = b) = false:=by simp; rintro rfl; exact e rfl
    have e2 : ¬ (a[i].1 = b[i].1 /\ a[i].2 = b[i].2):=fun h=>e (Prod.ext h.1 h.2)
    simp [go_sem,Cd,hf,hi,OG,hw,iI,bH]
    refine ⟨fun _=>az (by simp [go_sem]) ⟨by simp [go_sem,hz],rfl⟩,fun h1 h2=>absurd ⟨h1,h2⟩ e2⟩
  ·have hz : a = b:=by
    apply List.ext_getElem he
    intro i h1 h2
    have:=hJ i h1
    simpa [h1,h2] using this
   simp [go_sem,Cd,hf]
   exact az (by simp [go_sem]) ⟨by simp [go_sem,hz],rfl⟩
end Go.Proofs
namespace Go.Proofs
open Go Go.Pl Go.RowKit Go.Shelf Tryz
def zQ : Ren:={ f:=fun x=>match x with | 157=>49 | 229=>93 | 199=>94 | 261=>135 | 311=>163 | 312=>164 | n=>n,t:=fun x=>match x with | 9=>9 | 31=>123 | 3=>3 | 5=>5 | 4=>4 | 119=>166 | 0=>0 | 40=>168 | 152=>210 | 21=>21 | 154=>212 | 51=>213 | 141=>215 | 196=>246 | 193=>243 | 198=>248 | 49=>64 | 194=>244 | 201=>251 | 226=>272 | 46=>236 | 227=>273 | n=>n,g:=fun x=>match x with | 0=>0 | 6=>1 | n=>n }
theorem ads : Lays.n157 prog zQ where
 mixed:=by kernel_rfl
 f157:=func49.trans (congrArg some (by kernel_rfl))
 f199:=func94.trans (congrArg some (by kernel_rfl))
 f229:=func93.trans (congrArg some (by kernel_rfl))
 f261:=func135.trans (congrArg some (by kernel_rfl))
 f311:=func163.trans (congrArg some (by kernel_rfl))
 f312:=func164.trans (congrArg some (by kernel_rfl))
 t0:=Tryz.underlying0
 a0:=Tryz.isAgg0
 z0:=Tryz.sizeOf0
 v0:=Tryz.zeroValue0
 t3:=Tryz.underlying3
 a3:=Tryz.isAgg3
 z3:=Tryz.sizeOf3
 v3:=Tryz.zeroValue3
 t4:=Tryz.underlying4
 a4:=Tryz.isAgg4
 z4:=Tryz.sizeOf4
 v4:=Tryz.zeroValue4
 t5:=Tryz.underlying5
 a5:=Tryz.isAgg5
 z5:=Tryz.sizeOf5
 v5:=Tryz.zeroValue5
 t9:=Tryz.underlying9
 a9:=Tryz.isAgg9
 z9:=Tryz.sizeOf9
 v9:=Tryz.zeroValue9
 t21:=Tryz.underlying21
 a21:=Tryz.isAgg21
 z21:=Tryz.sizeOf21
 v21:=Tryz.zeroValue21
 t31:=Tryz.underlying123
 a31:=Tryz.isAgg123
 z31:=Tryz.sizeOf123
 v31:=Tryz.zeroValue123
 t40:=Tryz.underlying168
 a40:=Tryz.isAgg168
 z40:=Tryz.sizeOf168
 v40:=Tryz.zeroValue168
 t46:=Tryz.underlying236
 a46:=Tryz.isAgg236
 z46:=Tryz.sizeOf236
 v46:=Tryz.zeroValue236
 t49:=Tryz.underlying64
 a49:=Tryz.isAgg64
 z49:=Tryz.sizeOf64
 v49:=Tryz.zeroValue64
 t51:=Tryz.underlying213
 a51:=Tryz.isAgg213
 z51:=Tryz.sizeOf213
 v51:=Tryz.zeroValue213
 t119:=Tryz.underlying166
 a119:=Tryz.isAgg166
 z119:=Tryz.sizeOf166
 t141:=Tryz.underlying215
 a141:=Tryz.isAgg215
 z141:=Tryz.sizeOf215
 v141:=Tryz.zeroValue215
 t152:=Tryz.underlying210
 a152:=Tryz.isAgg210
 z152:=Tryz.sizeOf210
 v152:=Tryz.zeroValue210
 t154:=Tryz.underlying212
 a154:=Tryz.isAgg212
 z154:=Tryz.sizeOf212
 v154:=Tryz.zeroValue212
 t193:=Tryz.underlying243
 a193:=Tryz.isAgg243
 z193:=Tryz.sizeOf243
 v193:=Tryz.zeroValue243
 t194:=Tryz.underlying244
 a194:=Tryz.isAgg244
 z194:=Tryz.sizeOf244
 v194:=Tryz.zeroValue244
 t196:=Tryz.underlying246
 a196:=Tryz.isAgg246
 z196:=Tryz.sizeOf246
 v196:=Tryz.zeroValue246
 t198:=Tryz.underlying248
 a198:=Tryz.isAgg248
 z198:=Tryz.sizeOf248
 v198:=Tryz.zeroValue248
 t201:=Tryz.underlying251
 a201:=Tryz.isAgg251
 z201:=Tryz.sizeOf251
 v201:=Tryz.zeroValue251
 t226:=Tryz.underlying272
 a226:=Tryz.isAgg272
 z226:=Tryz.sizeOf272
 v226:=Tryz.zeroValue272
 t227:=Tryz.underlying273
 a227:=Tryz.isAgg273
 z227:=Tryz.sizeOf273
 v227:=Tryz.zeroValue273
 g0:=by kernel_rfl
 g6:=by kernel_rfl
def Ek : Ren:={ f:=fun x=>match x with | 173=>96 | 246=>137 | 283=>165 | 284=>166 | 285=>167 | 286=>168 | 129=>180 | 317=>182 | 318=>183 | 319=>184 | 320=>185 | 337=>191 | 338=>192 | n=>n,t:=fun x=>match x with | 2=>2 | 3=>3 | 9=>9 | 4=>4 | 171=>254 | 0=>0 | 53=>255 | 37=>120 | 5=>5 | 173=>258 | 212=>275 | 51=>213 | 20=>20 | 213=>276 | 46=>236 | 232=>287 | 233=>288 | n=>n,g:=fun x=>match x with | 17=>2 | 18=>3 | 19=>4 | n=>n }
theorem WD : LaysM.n173 prog Ek where
 mixed:=by kernel_rfl
 f129:=func180.trans (congrArg some (by kernel_rfl))
 f173:=func96.trans (congrArg some (by kernel_rfl))
 f246:=func137.trans (congrArg some (by kernel_rfl))
 f283:=func165.trans (congrArg some (by kernel_rfl))
 f284:=func166.trans (congrArg some (by kernel_rfl))
 f285:=func167.trans (congrArg some (by kernel_rfl))
 f286:=func168.trans (congrArg some (by kernel_rfl))
 f317:=func182.trans (congrArg some (by kernel_rfl))
 f318:=func183.trans (congrArg some (by kernel_rfl))
 f319:=func184.trans (congrArg some (by kernel_rfl))
 f320:=func185.trans (congrArg some (by kernel_rfl))
 f337:=func191.trans (congrArg some (by kernel_rfl))
 f338:=func192.trans (congrArg some (by kernel_rfl))
 t0:=Tryz.underlying0
 a0:=Tryz.isAgg0
 z0:=Tryz.sizeOf0
 v0:=Tryz.zeroValue0
 t2:=Tryz.underlying2
 a2:=Tryz.isAgg2
 z2:=Tryz.sizeOf2
 v2:=Tryz.zeroValue2
 t3:=Tryz.underlying3
 a3:=Tryz.isAgg3
 z3:=Tryz.sizeOf3
 v3:=Tryz.zeroValue3
 t4:=Tryz.underlying4
 a4:=Tryz.isAgg4
 z4:=Tryz.sizeOf4
 v4:=Tryz.zeroValue4
 t5:=Tryz.underlying5
 a5:=Tryz.isAgg5
 z5:=Tryz.sizeOf5
 v5:=Tryz.zeroValue5
 t9:=Tryz.underlying9
 a9:=Tryz.isAgg9
 z9:=Tryz.sizeOf9
 v9:=Tryz.zeroValue9
 t20:=Tryz.underlying20
 a20:=Tryz.isAgg20
 z20:=Tryz.sizeOf20
 v20:=Tryz.zeroValue20
 t37:=Tryz.underlying120
 a37:=Tryz.isAgg120
 z37:=Tryz.sizeOf120
 v37:=Tryz.zeroValue120
 t46:=Tryz.underlying236
 a46:=Tryz.isAgg236
 z46:=Tryz.sizeOf236
 v46:=Tryz.zeroValue236
 t51:=Tryz.underlying213
 a51:=Tryz.isAgg213
 z51:=Tryz.sizeOf213
 v51:=Tryz.zeroValue213
 t53:=Tryz.underlying255
 a53:=Tryz.isAgg255
 z53:=Tryz.sizeOf255
 v53:=Tryz.zeroValue255
 t171:=Tryz.underlying254
 a171:=Tryz.isAgg254
 z171:=Tryz.sizeOf254
 v171:=Tryz.zeroValue254
 t173:=Tryz.underlying258
 a173:=Tryz.isAgg258
 z173:=Tryz.sizeOf258
 v173:=Tryz.zeroValue258
 t212:=Tryz.underlying275
 a212:=Tryz.isAgg275
 z212:=Tryz.sizeOf275
 v212:=Tryz.zeroValue275
 t213:=Tryz.underlying276
 a213:=Tryz.isAgg276
 z213:=Tryz.sizeOf276
 t232:=Tryz.underlying287
 a232:=Tryz.isAgg287
 z232:=Tryz.sizeOf287
 v232:=Tryz.zeroValue287
 t233:=Tryz.underlying288
 a233:=Tryz.isAgg288
 z233:=Tryz.sizeOf288
 v233:=Tryz.zeroValue288
 g17:=by kernel_rfl
 g18:=by kernel_rfl
 g19:=by kernel_rfl
 i0:=by kernel_rfl
 i2:=by kernel_rfl
 i3:=by kernel_rfl
 i4:=by kernel_rfl
 i5:=by kernel_rfl
 i9:=by kernel_rfl
 i20:=by kernel_rfl
 i37:=by kernel_rfl
 i46:=by kernel_rfl
 i51:=by kernel_rfl
 i53:=by kernel_rfl
 i171:=by kernel_rfl
 i173:=by kernel_rfl
 i212:=by kernel_rfl
 i232:=by kernel_rfl
 i233:=by kernel_rfl
 m17:=by kernel_rfl
 m18:=by kernel_rfl
 m19:=by kernel_rfl
theorem He {P : Program} {e : TypeId} {c : Nat} (hd : 0 < P.depth) (hs : P.cellsOf e ≠ 0) (hc : 1 <= c) : liesAt P P.depth e c 0 e 1 = true:=by
 obtain ⟨d,hd⟩ : ∃ d,P.depth = d + 1:=⟨P.depth - 1,by omega⟩
 have h1 : sameLayout P P.depth e e = true:=by rw [hd]; simp [sameLayout]
 have h2 : rowAt P (fun t=>sameLayout P P.depth t e) P.depth e c 0 1 = true:=by
  rw [hd] at h1 ⊢
  unfold rowAt
  rw [if_neg hs]
  simp [h1,hc]
 rw [hd] at h2 ⊢
 unfold liesAt
 rw [hd]
 rw [h2]
 rfl
theorem szB : (prog.info? 122).map (·.size) = some 2:=by kernel_rfl
theorem Hf : prog.cellsOf 122 = 2:=by kernel_rfl
theorem OH : 0 < prog.depth:=by
 have h : decide (0 < prog.depth) = true:=by kernel_rfl
 exact of_decide_eq_true h
theorem El (b : Nat) (w : World) (h0 : w.cell? ⟨b,0,none⟩ = some (.pointer (some ⟨b,0,none⟩))) :
 Calls prog 95 #[.pointer (some ⟨b,0,none⟩)] w fun e w'=>e = .returned (.tuple #[]) /\ w' = w:=by
 obtain ⟨j,hj,hjs⟩:=Option.map_eq_some_iff.1 szB
 go_enter func95,Tryz.ntmps95
 go_wp2
 rw [Lib.run_neq_ptr_same w _ (show prog.underlying 119 = some (.pointer 122) by kernel_rfl) hj]
 go_wp2
 go_end0
 exact ⟨rfl,rfl⟩
theorem Bx (b n : Nat) (w : World) (h0 : w.cell? ⟨b,0,none⟩ = some (.pointer none)) (vS : w.shape? b = some (122,n)) (hn : 2 <= n) (rC : w.frozen? ⟨b,0,none⟩ = false) :
 Calls prog 95 #[.pointer (some ⟨b,0,none⟩)] w fun e w'=>e = .returned (.tuple #[]) /\ w' = w.setCell ⟨b,0,none⟩ (.pointer (some ⟨b,0,none⟩)):=by
 obtain ⟨j,hj,hjs⟩:=Option.map_eq_some_iff.1 szB
 have WE : liesAt prog prog.depth 122 (n / prog.cellsOf 122) 0 122 1 = true:=He OH (by rw [Hf]; decide) (by rw [Hf]; exact (Nat.le_div_iff_mul_le (by decide)).2 (by omega))
 go_enter func95,Tryz.ntmps95
 go_wp2
 rw [Lib.run_to_unsafe w ⟨b,0,none⟩ (t:=122) (by kernel_rfl) (by kernel_rfl) hj (by rw [hjs]; decide) vS (show 0 < n by omega)]
 simp only [Result.andThen]
 rw [Oper.upon_value]
 go_wp2
 rw [run_callFunc_extern func136 (by kernel_rfl) (by kernel_rfl) (by kernel_rfl) (e:=Extern.AbiNoEscape.same) (by kernel_rfl)]
 rw [Lib.run_noEscape]
 simp only [Result.andThen]
 rw [Oper.upon_value]
 go_wp2
 rw [Lib.run_from_unsafe w ⟨b,0,none⟩ (u:=122) (by kernel_rfl) (by kernel_rfl) hj vS WE]
 simp only [Result.andThen]
 rw [Oper.upon_value]
 go_wp2
 go_end0
 exact ⟨rfl,rfl⟩
theorem zR {w : World} {k : Nat} {cur : Array Value} {ty : TypeId} {fr : Nat × Nat} (h : w.heap[k]? = some (.cells cur ty fr)) (i : Nat) (v : Value) : w.setCell ⟨k,i,none⟩ v = w.setRow k (cur.setIfInBounds i v):=by
 unfold World.setCell World.setRow
 refine congrArg (fun h=>({ w with heap:=h } : World)) ?_
 apply Array.ext_getElem?
 intro j
 rw [Array.getElem?_modify,Array.getElem?_modify]
 by_cases e : k = j
 ·subst e
  simp [h]
 ·simp [e]
def Em (T : TypeId) (a v : V) : bI:=.row T 2 [.agg [a,v]]
theorem OI {bx : aa} {b : Nat} {a v : V} (hb : bx b = some (Em 122 a v)) (ha : a = .eJ \/ a = .ptr b 2 0 0) :
 aw prog 95 [.ptr b 2 0 0] bx fun r bx'=>r = .dh [] /\ bx' = aA bx b (some (Em 122 (.ptr b 2 0 0) v)):=by
 unfold Em at hb ⊢
 refine ⟨enters_of func95 (by kernel_rfl) rfl,fun β M w vs cY l9 ju bN=>?_⟩
 have h0:=bN 0 _ rfl
 have Dh : vs = #[vs.getD 0 undef]:=by
  apply Array.ext
  ·simpa using ju
  ·intro j g1 g2
   simp at ju g2
   subst g2
   simp [g1]
 generalize vs.getD 0 undef = u at h0 Dh
 subst Dh
 cases h0 with
 | ptr _ _ _ _ k bL =>
   rcases cY.live b _ hb with ⟨h1,h2⟩ | ⟨k',h1,dt,hM,cur,fr,aV,iG,jn,aq⟩
   ·simp [bI.empty] at h2
   ·rw [bL] at h1
    injection h1 with h1
    injection h1 with h1
    subst h1
    obtain ⟨_,hr⟩:=aq 0 _ rfl
    obtain ⟨o0,r0⟩:=hr 0 a rfl
    obtain ⟨o1,r1⟩:=hr 1 v rfl
    simp only [Nat.zero_mul,Nat.zero_add] at o0 r0 o1 r1
    have tW : 2 <= cur.size:=by simpa using jn
    have bA : w.cell? ⟨k,0,none⟩ = some (cur.getD 0 undef):=by
     simp [World.cell?,aV,show 0 < cur.size by omega]
    have rC : w.frozen? ⟨k,0,none⟩ = false:=uQ aV iG (by omega)
    rcases ha with rfl | rfl
    ·have e0 : cur.getD 0 undef = .pointer none:=by
      generalize cur.getD 0 undef = c at r0
      cases r0; rfl
     rw [e0] at bA
     refine (Bx k cur.size w bA (bJ aV) tW rC).mono ?_
     rintro e w' ⟨rfl,rfl⟩
     rw [zR aV]
     obtain ⟨g1,g2⟩:=pU cY hb bL aV iG (cur.setIfInBounds 0 (.pointer (some ⟨k,0,none⟩))) (by simp) [.agg [.ptr b 2 0 0,v]] rfl (by simpa using tW) (by
      intro i e hi
      rcases i with _ | i
      ·simp at hi
       subst hi
       refine ⟨rfl,fun j c hj=>?_⟩
       rcases j with _ | _ | j
       ·simp [V.cells] at hj
        subst hj
        simp only [Nat.zero_mul,Nat.zero_add]
        have : (cur.setIfInBounds 0 (.pointer (some ⟨k,0,none⟩))).getD 0 undef = .pointer (some ⟨k,0,none⟩):=by simp [show 0 < cur.size by omega]
        rw [this]
        exact ⟨rfl,by simpa using aP.ptr b 2 0 0 k bL⟩
       ·simp [V.cells] at hj
        subst hj
        simp only [Nat.zero_mul,Nat.zero_add]
        have : (cur.setIfInBounds 0 (.pointer (some ⟨k,0,none⟩))).getD 1 undef = cur.getD 1 undef:=by
         simp [Array.getD_eq_getD_getElem?]
        rw [this]
        exact ⟨o1,r1⟩
       ·simp [V.cells] at hj
      ·simp at hi)
     exact ⟨_,_,_,β,rfl,⟨rfl,rfl⟩,g1,g2,.dh [] #[] rfl (fun i c h=>by simp at h)⟩
    ·have e0 : cur.getD 0 undef = .pointer (some ⟨k,0,none⟩):=by
      generalize cur.getD 0 undef = c at r0
      cases r0 with
      | ptr _ _ _ _ k2 hβ2 =>
        rw [bL] at hβ2
        injection hβ2 with hβ2
        injection hβ2 with hβ2
        subst hβ2
        rfl
     rw [e0] at bA
     refine (El k w bA).mono ?_
     rintro e w' ⟨rfl,rfl⟩
     have hs : aA bx b (some (.row 122 2 [.agg [.ptr b 2 0 0,v]])) = bx:=by
      funext c
      by_cases e : c = b
      ·subst e; rw [af,hb]
      ·rw [ae _ _ e]
     rw [hs]
     exact ⟨_,_,_,β,rfl,⟨rfl,rfl⟩,cY,Tr.refl _ _ _,.dh [] #[] rfl (fun i c h=>by simp at h)⟩
structure HT (aC bx : aa) (b : Nat) (l : List UInt8) : Prop where
 ex : ∃ a v,(a = .eJ \/ a = .ptr b 2 0 0) /\ bx b = some (Em 122 a v) /\ ((v = .aI /\ l = []) \/ ∃ bb,v = .own bb 1 0 l.length /\ bb ≠ b /\ aC bb = none /\ bx bb = some (.row 5 1 (l.map dI)))
 nb : aC b = none
 ext : Ext aC bx
 fin : bj bx
theorem HT.start {bx : aa} {b : Nat} (hb : bx b = none) (hf : bj bx) : HT bx (aA bx b (some (.row 122 2 [.agg [.eJ,.aI]]))) b [] :=
 ⟨⟨.eJ,.aI,.inl rfl,af _ _ _,.inl ⟨rfl,rfl⟩⟩,hb,(Ext.refl _).new hb _,(ar _ _ _).2 hf⟩
theorem HT.next {aC bx : aa} {b : Nat} {l : List UInt8} (h : HT aC bx b l) {bM : aa} {b' : Nat} {l' : List UInt8} {n : Nat} (hn : n = l'.length) (bp : b' ≠ b) (h0 : aC b' = none) (hb : bM b = some (.row 122 2 [.agg [.ptr b 2 0 0,.own b' 1 0 n]])) (aQ : bM b' = some (.row 5 1 (l'.map dI))) (he : Ext aC bM) (hf : bj bM) : HT aC bM b l':=by
 subst hn
 exact ⟨⟨_,_,.inr rfl,hb,.inr ⟨b',rfl,bp,h0,aQ⟩⟩,h.nb,he,hf⟩
theorem uH {aC bx : aa} {b : Nat} {l : List UInt8} (h : HT aC bx b l) (s : List UInt8) (hs : l.length + s.length <= 100000000) :
 aw prog 50 [.ptr b 2 0 0,.str s] bx fun r bx'=>r = .dh [.int .i64 s.length,.iM] /\ HT aC bx' b (l ++ s):=by
 refine Vf fun hf=>?_
 obtain ⟨a,v,ha,hb,hv⟩:=h.ex
 simp [go_sem,C50,hf]
 refine an (OI hb ha) ?_
 rintro r bM ⟨rfl,rfl⟩
 unfold Em
 rcases hv with ⟨rfl,rfl⟩ | ⟨bb,rfl,bp,JR,eV⟩
 ·simp [go_sem,af,ar,hf,c8,bP,FC,To,F1,Tp,Tq]
  refine ⟨by omega,by omega,fun b' aQ=>?_⟩
  have bp : b' ≠ b:=fun e=>by subst e; rw [af] at aQ; cases aQ
  have c9 : bx b' = none:=by rw [ae _ _ bp] at aQ; exact aQ
  have h0:=h.ext.none c9
  simp [go_sem,af,ae,Ne.symm bp,bp,ar,hf]
  refine az (by simp [go_sem]) ⟨by simp [go_sem],h.next (b':=b') (l':=s) rfl bp h0 (by simp [go_sem,af]) (by simp [go_sem,ae _ _ bp,af]) (fun c hc=>?_) (by simp [ar,hf])⟩
  have c1 : c ≠ b:=fun e=>hc (by rw [e]; exact h.nb)
  have c2 : c ≠ b':=fun e=>hc (by rw [e]; exact h0)
  simp only [ae _ _ c1,ae _ _ c2]
  exact h.ext c hc
 ·simp [go_sem,af,ar,hf,ae,bp,Ne.symm bp,eV,c8,bP,FC,To,F1,Tp,Tq]
  refine ⟨by omega,by omega,fun b' aQ=>?_⟩
  have Hg : b' ≠ b:=fun e=>by subst e; rw [ae _ _ (Ne.symm bp),af] at aQ; cases aQ
  have h0 : aC b' = none:=by
   by_cases e : b' = bb
   ·rw [e]; exact JR
   ·rw [ae _ _ e,ae _ _ Hg] at aQ
    exact h.ext.none aQ
  have Q8 : (l.map dI).take l.length = l.map dI:=by rw [List.take_of_length_le (by simp)]
  rw [Q8,<- List.map_append]
  simp [go_sem,af,ae,Ne.symm Hg,Hg,bp,Ne.symm bp,ar,hf]
  refine az (by simp [go_sem]) ⟨by simp [go_sem],h.next (b':=b') (l':=l ++ s) (n:=l.length + s.length) (by simp) Hg h0 (by simp [go_sem,af]) (by simp [go_sem,ae _ _ Hg,af]) (fun c hc=>?_) (by simp [ar,hf])⟩
  have c1 : c ≠ b:=fun e=>hc (by rw [e]; exact h.nb)
  have c2 : c ≠ b':=fun e=>hc (by rw [e]; exact h0)
  have c3 : c ≠ bb:=fun e=>hc (by rw [e]; exact JR)
  simp only [ae _ _ c1,ae _ _ c2,ae _ _ c3]
  exact h.ext c hc
theorem WG (k g cap : Nat) (cur : Array Value) {fr : Nat × Nat} (l : List UInt8) (h0 : l ≠ []) (w : World) (cZ : w.cell? ⟨k,1,none⟩ = some (.slice (some ⟨g,0,none⟩) l.length cap)) (hg : w.heap[g]? = some (.cells cur 5 fr)) (aV : ∀ (j : Nat) (x : UInt8),l[j]? = some x -> cur[j]? = some (.int .u8 x.toNat)) (hle : l.length <= cap) (gT : cap <= maxLen) :
 Calls prog 52 #[.pointer (some ⟨k,0,none⟩)] w fun e w'=>e = .returned (.string ⟨l.toArray⟩) /\ w' = w.drew.freeze ⟨g,0,none⟩ l.length:=by
 have mixed : prog.follows .mixedOrders = true:=by kernel_rfl
 have QC : l.length ≠ 0:=by simpa using h0
 have c1 : w.drew.cell? ⟨k,1,none⟩ = some (.slice (some ⟨g,0,none⟩) l.length cap):=cZ
 have hSD : (Builtin.unsafeSliceData_ #[120] 170 #[.slice (some ⟨g,0,none⟩) l.length cap]).run prog w.drew = .ok (.pointer (some ⟨g,0,none⟩)) w.drew :=
  Lib.run_unsafeSliceData_row _ _ _ _ _ _ (by omega)
 have hUS : (Builtin.unsafeString_ #[170,3] 9 #[.pointer (some ⟨g,0,none⟩),.int .i64 l.length]).run prog w.drew = .ok (.string ⟨l.toArray⟩) (w.drew.freeze ⟨g,0,none⟩ l.length):=by
  refine Lib.run_unsafeString_row w.drew 170 3 9 5 (by kernel_rfl) (by kernel_rfl) g cur.size (by have yi : w.drew.heap[g]? = some (.cells cur 5 fr):=hg; simp [World.shape?,yi]) l h0 ?_ (by unfold maxLen at gT; omega) ?_
  ·rcases hx : l.length with _ | n
   ·omega
   ·have hn : n < l.length:=by omega
    have:=aV n _ (List.getElem?_eq_getElem hn)
    have:=(Array.getElem?_eq_some_iff.1 this).1
    omega
  ·intro j x hx
   have h2:=aV j x hx
   have e : (⟨g,0,none⟩ : Addr).add j = ⟨g,j,none⟩:=by unfold Addr.add; by_cases h : j = 0 <;> simp [h]
   rw [e]
   show w.cell? ⟨g,j,none⟩ = _
   simp [World.cell?,hg,h2]
 go_enter func52,Tryz.ntmps52
 go_wp2
 go_region_o
 all_goals (go_wp2; go_ret; exact ⟨rfl,rfl⟩)
theorem JS {β : Beta} {M : dP} {w : World} {bx : aa} (h : eu β M bx w) {b k : Nat} {ty : TypeId} {sz : Nat} {es : List V} (hb : bx b = some (.row ty sz es)) (bL : β b = some (some k)) {cur : Array Value} {fr0 : Nat × Nat} (aV : w.heap[k]? = some (.cells cur ty fr0)) (m : Nat) :
 eu β M (aA bx b none) (w.freeze ⟨k,0,none⟩ m) /\ Tr β bx w β (aA bx b none) (w.freeze ⟨k,0,none⟩ m):=by
 obtain ⟨fr,jm,wA,bV⟩ : ∃ fr,(w.freeze ⟨k,0,none⟩ m).heap[k]? = some (.cells cur ty fr) /\ (∀ q,q ≠ k -> (w.freeze ⟨k,0,none⟩ m).heap[q]? = w.heap[q]?) /\ (w.freeze ⟨k,0,none⟩ m).heap.size = w.heap.size:=by
  unfold World.freeze
  split
  ·exact ⟨_,aV,fun _ _=>rfl,rfl⟩
  ·obtain ⟨lo,hi⟩:=fr0
   refine ⟨_,by simp only [Array.getElem?_modify,if_pos,aV,Option.map_some]; rfl,fun q hq=>?_,by simp⟩
   ·simp only [Array.getElem?_modify]
    rw [if_neg (Ne.symm hq)]
 have uN : (w.freeze ⟨k,0,none⟩ m).os = w.os /\ (w.freeze ⟨k,0,none⟩ m).tape = w.tape /\ (w.freeze ⟨k,0,none⟩ m).output = w.output /\ (w.freeze ⟨k,0,none⟩ m).drawn = w.drawn:=by
  unfold World.freeze; split <;> exact ⟨rfl,rfl,rfl,rfl⟩
 generalize w.freeze ⟨k,0,none⟩ m = w' at *
 have pg:=h.live b _ hb
 obtain ⟨dt,hM⟩ : k < w.heap.size /\ M k = none:=by
  rcases pg with ⟨h1,_⟩ | ⟨k',h1,h2,h3,_⟩
  ·rw [bL] at h1; cases h1
  ·rw [bL] at h1; injection h1 with h1; injection h1 with h1; subst h1; exact ⟨h2,h3⟩
 have eS : ∀ b',aA bx b none b' ≠ none -> bx b' ≠ none /\ b' ≠ b:=by
  intro b' aQ
  by_cases e : b' = b
  ·subst e; simp [af] at aQ
  ·rw [ae _ _ e] at aQ; exact ⟨aQ,e⟩
 have hs : ∀ q x,w.shape? q = some x -> w'.shape? q = some x:=by
  intro q x hx
  by_cases e : q = k
  ·subst e; rw [bJ jm,<- bJ aV]; exact hx
  ·rw [bD (wA q e)]; exact hx
 have ht : Tr β bx w β (aA bx b none) w' :=
  ⟨uN.1,uN.2.1,uN.2.2.1,fun _=>by rw [uN.2.2.2]; exact Nat.le_refl _,fun hm=>Mk.kh hm (fun _ h=>by cases h),by omega,fun q h1 h2=>wA q (by rintro rfl; exact h2 b (by rw [hb]; simp) bL),hs,fun _ _ h=>h,fun b' q h1 h2=>.inl ⟨b',(eS b' h1).1,h2⟩⟩
 refine ⟨⟨h.fin,fun q y hq=>(wA q (by rintro rfl; rw [hM] at hq; cases hq)).trans (h.mlt q y hq),fun b' box' aQ=>?_,fun b1 b2 q h1 h2 h3 h4=>h.inj b1 b2 q (eS _ h1).1 (eS _ h2).1 h3 h4⟩,ht⟩
 have bp:=(eS b' (by rw [aQ]; simp)).2
 rw [ae _ _ bp] at aQ
 rcases h.live b' box' aQ with h1 | ⟨k',h1,h2,h3,h4⟩
 ·exact .inl h1
 ·have e : k' ≠ k:=by rintro rfl; exact bp (h.inj b' b k' (by rw [aQ]; simp) (by rw [hb]; simp) h1 bL)
  exact .inr ⟨k',h1,by omega,h3,bh h4 (wA k' e) (fun _ _ h=>h) (fun _ hk=>ht.fz hk) ht.shape⟩
theorem Hh {aC bx : aa} {b : Nat} {l : List UInt8} (h : HT aC bx b l) (h0 : l ≠ []) :
 aw prog 52 [.ptr b 2 0 0] bx fun r bx'=>r = .str l /\ Ext aC bx' /\ bj bx':=by
 obtain ⟨a,v,ha,hb,hv⟩:=h.ex
 unfold Em at hb
 rcases hv with ⟨_,e⟩ | ⟨bb,rfl,bp,JR,eV⟩
 ·exact absurd e h0
 refine ⟨enters_of func52 (by kernel_rfl) rfl,fun β M w vs cY l9 ju bN=>?_⟩
 have r0:=bN 0 _ rfl
 have Dh : vs = #[vs.getD 0 undef]:=by
  apply Array.ext
  ·simpa using ju
  ·intro j g1 g2
   simp at ju g2
   subst g2
   simp [g1]
 generalize vs.getD 0 undef = u at r0 Dh
 subst Dh
 cases r0 with
 | ptr _ _ _ _ k bL =>
   rcases cY.live b _ hb with ⟨h1,h2⟩ | ⟨k',h1,dt,hM,cur,fr,aV,iG,jn,aq⟩
   ·simp [bI.empty] at h2
   rw [bL] at h1
   injection h1 with h1
   injection h1 with h1
   subst h1
   obtain ⟨_,hr⟩:=aq 0 _ rfl
   obtain ⟨o1,r1⟩:=hr 1 _ rfl
   simp only [Nat.zero_mul,Nat.zero_add] at o1 r1
   have tW : 2 <= cur.size:=by simpa using jn
   have bA : w.cell? ⟨k,1,none⟩ = some (cur.getD 1 undef):=by
    simp [World.cell?,aV,show 1 < cur.size by omega]
   generalize cur.getD 1 undef = c1 at r1 bA
   rcases cY.live bb _ eV with ⟨_,g2⟩ | ⟨g,g1,glt,gM,gcur,gfr,ghcur,ghfr,gcl,grow⟩
   ·simp [bI.empty] at g2; exact absurd g2 h0
   have eK : l.length ≠ 0:=by simpa using h0
   generalize hn : l.length = n at r1
   cases r1 with
   | nv _ _ hβ2=>omega
   | own _ _ _ _ g2 cap m ty hβ2 hs hm rM gT =>
     rw [g1] at hβ2
     injection hβ2 with hβ2
     injection hβ2 with hβ2
     subst hβ2
     subst hn
     have OJ : ∀ (j : Nat) (x : UInt8),l[j]? = some x -> gcur[j]? = some (.int .u8 x.toNat):=by
      intro j x hx
      obtain ⟨_,hrj⟩:=grow j (dI x) (by simp [hx])
      obtain ⟨_,h3⟩:=hrj 0 _ rfl
      simp only [Nat.mul_one,Nat.add_zero] at h3
      have h4:=h3.bB
      have hj : j < gcur.size:=by
       have:=(List.getElem?_eq_some_iff.1 hx).1
       simp at gcl
       omega
      rw [Array.getD_eq_getD_getElem?,Array.getElem?_eq_getElem hj] at h4
      rw [Array.getElem?_eq_getElem hj]
      exact congrArg some h4
     refine (WG k g cap gcur l h0 w (by simpa using bA) ghcur OJ rM (by simpa using gT)).mono ?_
     rintro e w' ⟨rfl,rfl⟩
     obtain ⟨g3,g4⟩:=JS cY.drew eV g1 (show w.drew.heap[g]? = _ from ghcur) l.length
     refine ⟨_,_,_,β,rfl,⟨rfl,fun c hc=>?_,(ar _ _ _).2 h.fin⟩,g3,(Tr.drew cY).trans g4,rX _⟩
     rw [ae _ _ (fun e=>hc (by rw [e]; exact JR))]
     exact h.ext c hc
theorem WH (k : Nat) (w : World) (cZ : w.cell? ⟨k,1,none⟩ = some (.slice none 0 0)) :
 Calls prog 52 #[.pointer (some ⟨k,0,none⟩)] w fun e w'=>e = .returned (.string .empty) /\ w' = w.drew:=by
 have mixed : prog.follows .mixedOrders = true:=by kernel_rfl
 have c1 : w.drew.cell? ⟨k,1,none⟩ = some (.slice none 0 0):=cZ
 have hSD : (Builtin.unsafeSliceData_ #[120] 170 #[.slice none 0 0]).run prog w.drew = .ok (.pointer none) w.drew:=Lib.run_unsafeSliceData_nil _ _ _ _ _
 have hUS : (Builtin.unsafeString_ #[170,3] 9 #[.pointer none,.int .i64 0]).run prog w.drew = .ok (.string .empty) w.drew:=Lib.run_unsafeString_none _ _ _ _ _
 go_enter func52,Tryz.ntmps52
 go_wp2
 go_region_o
 all_goals (go_wp2; go_ret; exact ⟨rfl,rfl⟩)
theorem Hi {bx : aa} {b : Nat} {a : V} (hb : bx b = some (.row 122 2 [.agg [a,.aI]])) :
 aw prog 52 [.ptr b 2 0 0] bx fun r bx'=>r = .str [] /\ bx' = bx:=by
 refine ⟨enters_of func52 (by kernel_rfl) rfl,fun β M w vs cY l9 ju bN=>?_⟩
 have r0:=bN 0 _ rfl
 have Dh : vs = #[vs.getD 0 undef]:=by
  apply Array.ext
  ·simpa using ju
  ·intro j g1 g2
   simp at ju g2
   subst g2
   simp [g1]
 generalize vs.getD 0 undef = u at r0 Dh
 subst Dh
 cases r0 with
 | ptr _ _ _ _ k bL =>
   rcases cY.live b _ hb with ⟨h1,h2⟩ | ⟨k',h1,dt,hM,cur,fr,aV,iG,jn,aq⟩
   ·simp [bI.empty] at h2
   rw [bL] at h1
   injection h1 with h1
   injection h1 with h1
   subst h1
   obtain ⟨_,hr⟩:=aq 0 _ rfl
   obtain ⟨o1,r1⟩:=hr 1 _ rfl
   simp only [Nat.zero_mul,Nat.zero_add] at o1 r1
   have tW : 2 <= cur.size:=by simpa using jn
   have bA : w.cell? ⟨k,1,none⟩ = some (cur.getD 1 undef):=by
    simp [World.cell?,aV,show 1 < cur.size by omega]
   generalize cur.getD 1 undef = c1 at r1 bA
   cases r1
   refine (WH k w (by simpa using bA)).mono ?_
   rintro e w' ⟨rfl,rfl⟩
   exact ⟨_,_,_,β,rfl,⟨rfl,rfl⟩,cY.drew,Tr.drew cY,rX []⟩
theorem Hj {P : Program} {β : Beta} {w : World} {F : Nat -> Prop} (h : oU P β w F) {g : Nat} {name : String} {k : IntKind} {zs : List Int} (hg : P.globalNamed name = some g) (hv : Ly P g = .ep (.agg (zs.map (.int k))) 0) : Lib.TabIs P w name k zs:=by
 obtain ⟨h1,h2⟩:=h g
 obtain ⟨b,_,tyg,Lp⟩:=h2 _ hv
 rw [hv] at h1
 simp only [List.length_map] at Lp
 generalize hp : Value.pointer (some ⟨g,0,none⟩) = p at h1
 cases h1 with
 | ep e o a u hc hr =>
  injection hp with hp
  injection hp with hp
  have ha : a = ⟨g,0,none⟩:=by
   rw [hp]
   unfold Addr.add
   obtain ⟨ab,ao,av⟩:=a
   cases av <;> simp
  subst ha
  simp only [V.cells] at hc hr
  unfold World.shape? at Lp
  unfold Lib.TabIs World.var?
  rw [hg]
  simp only [Option.bind_some]
  cases hh : w.heap[g]? with
  | none=>rw [hh] at Lp; cases Lp
  | some o =>
    rw [hh] at Lp
    cases o with
    | cells cur oO fr =>
      simp only [Option.some.injEq,Prod.mk.injEq] at Lp ⊢
      obtain ⟨_,bV⟩:=Lp
      apply Array.ext
      ·simp [bV]
      ·intro j h1 h2
       have hj : j < zs.length:=by omega
       have Ab : (zs.map (V.int k))[j]? = some (.int k zs[j]):=by simp [hj]
       obtain ⟨a',fA,_,bA,_⟩:=hc j _ Ab
       injection fA with fA
       subst fA
       have hrj:=(hr j _ Ab).bB
       rw [hrj] at bA
       have aV : cur[j]? = some (.int k zs[j]):=by
        have e : (⟨g,0,none⟩ : Addr).add j = ⟨g,j,none⟩:=by unfold Addr.add; by_cases h : j = 0 <;> simp [h]
        rw [e] at bA
        simp only [World.cell?,hh] at bA
        simpa using bA
       have : cur[j] = .int k zs[j]:=by
        rw [Array.getElem?_eq_getElem h1] at aV
        exact Option.some.inj aV
       rw [this]
       simp
    | _=>simp at Lp
theorem zS (n : Int) (h0 : -9223372036854775808 <= n) (h1 : n <= 9223372036854775807) (bx : aa) : ay prog 96 [.int .i64 n,.int .i64 10] bx (.str (Lib.itoa n)):=by
 refine ⟨enters_of func96 (by kernel_rfl) rfl,fun β M w vs cY l9 ju bN=>?_⟩
 have e0 : vs.getD 0 undef = .int .i64 n:=(bN 0 _ rfl).bB
 have e1 : vs.getD 1 undef = .int .i64 10:=(bN 1 _ rfl).bB
 have hv : vs = #[.int .i64 n,.int .i64 10]:=by
  apply Array.ext
  ·simpa using ju
  ·intro j g1 g2
   simp at ju
   have : j = 0 \/ j = 1:=by omega
   rcases this with rfl | rfl
   ·rw [<- e0]; simp [g1]
   ·rw [<- e1]; simp [g1]
 subst hv
 refine (Go.Proofs.Any.strconv_FormatInt_10 WD n h0 h1 w (Hj l9 (g:=2) (by kernel_rfl) (by kernel_rfl))).mono ?_
 rintro e w' ⟨rfl,k,os,rfl⟩
 have hk : ∀ q,q < w.heap.size -> (Go.Sort.grow (w.drewN k) os).heap[q]? = w.heap[q]?:=fun q hq=>by
  show (w.heap ++ os)[q]? = _
  rw [Array.getElem?_append_left hq]
 have bV : w.heap.size <= (Go.Sort.grow (w.drewN k) os).heap.size:=by
  show w.heap.size <= (w.heap ++ os).size
  simp
 exact ⟨_,_,bx,β,rfl,⟨rfl,rfl⟩,cY.grown bV cY.fin (fun _ _ h=>h) hk,Tr.grown cY rfl rfl rfl (Nat.le_add_right w.drawn k) bV (fun _ _ h=>h) hk,rX _⟩
theorem Hk (n : Int) (h0 : -9223372036854775808 <= n) (h1 : n <= 9223372036854775807) (bx : aa) : ay prog 51 [.int .i64 n] bx (.str (Lib.itoa n)):=by
 refine Vg fun hf=>?_
 simp [go_sem,C51,hf]
 refine ag (zS n h0 h1 bx) ?_
 simp [go_sem,hf]
 exact az (by simp [go_sem]) ⟨by simp [go_sem],rfl⟩
end Go.Proofs
namespace Go.Pl
open Go
theorem aw.adt {P : Program} {f : FuncId} {args : List V} {bx : aa} {Kc K2 : V -> aa -> Prop} (h : aw P f args bx Kc) (hs : ∀ r bx',Kc r bx' -> ∃ bx2 d,cj bx' bx2 /\ K2 (Go.Pl.dA bx' bx2 d r) bx2) : aw P f args bx K2:=by
 refine ⟨h.1,fun β M w vs h1 h2 h3 h4=>(h.2 β M w vs h1 h2 h3 h4).mono ?_⟩
 rintro e w' ⟨v,r,bx',β',rfl,hk,cY,ht,bN⟩
 obtain ⟨bx2,d,na,fJ⟩:=hs r bx' hk
 exact ⟨v,_,bx2,β',rfl,fJ,cY.sub na,ht.trans na.tr,kX cY na d _ _ bN⟩
end Go.Pl
namespace Go.Proofs
open Go Go.Pl Go.RowKit Go.Shelf Tryz
theorem adu : Ly prog 0 = .ep (.agg (Lib.asciiSpaceTab.map (.int .u8))) 0:=by kernel_rfl
theorem WJ : prog.globalNamed "strings.asciiSpace" = some 0:=by kernel_rfl
theorem hi9 : (prog.info? 9).map (fun i=>(i.zero,i.size,i.bytes)) = some (some (.string ByteArray.empty),1,16):=by kernel_rfl
theorem Hl (s : List UInt8) (hs : s.length < 4294967281) (hascii : ∀ b,b ∈ s -> b.toNat < 128) (bx : aa) : aw prog 49 [.str s] bx fun r bx'=>∃ b,bx b = none /\ r = .own b 1 0 (Lib.fields s).length /\ bx' = aA bx b (some (.row 9 1 ((Lib.fields s).map .str))):=by
 refine ⟨enters_of func49 (by kernel_rfl) rfl,fun β M w vs cY l9 ju bN=>?_⟩
 have h0:=bN 0 _ rfl
 have Dh : vs = #[vs.getD 0 undef]:=by
  apply Array.ext
  ·simpa using ju
  ·intro j g1 g2
   simp at ju g2
   subst g2
   simp [g1]
 generalize vs.getD 0 undef = u at h0 Dh
 subst Dh
 obtain ⟨x,rfl,hx⟩:=h0.dW
 have QX : x.size = s.length:=by rw [<- hx]; rfl
 refine (Any.strings_Fields ads hi9 WJ x w (by omega) (fun j b hb=>hascii b (by rw [<- hx]; exact List.mem_of_getElem? hb)) (Hj l9 WJ adu)).mono ?_
 rintro e w' ⟨rfl,rfl⟩
 rw [hx]
 obtain ⟨b',eU,c9⟩:=cY.fresh
 obtain ⟨cur,aV⟩ : ∃ cur,(((Lib.fields s).map fun l=>Value.string ⟨l.toArray⟩).toArray) = cur:=⟨_,rfl⟩
 have hlen : cur.size = (Lib.fields s).length:=by rw [<- aV]; simp
 have tY : (Lib.fields s).length <= s.length:=by
  have h1:=Lib.fields_length s
  have h2 : ∀ (l : List UInt8) (w : Bool),Lib.cntF w l <= l.length:=by
   intro l
   induction l with
   | nil=>intro w; simp [Lib.cntF]
   | cons a l ih =>
     intro w
     rw [Lib.cntF_step]
     have:=ih (Lib.isSp a)
     simp only [List.length_cons]
     split <;> omega
  rw [h1]; exact h2 s true
 have Q3 : ∀ (i : Nat) (f : List UInt8),(Lib.fields s)[i]? = some f -> cur.getD (i * 1 + 0) undef = Value.string ⟨f.toArray⟩:=fun i f hf=>by
  rw [Array.getD_eq_getD_getElem?,<- aV]
  simp [hf]
 rw [show (Go.Shelf.Ren.t zQ 9) = 9 from rfl,aV]
 clear aV
 obtain ⟨L,hL⟩ : ∃ L,Lib.fields s = L:=⟨_,rfl⟩
 rw [hL] at hlen tY Q3 ⊢
 obtain ⟨h5,h6⟩:=uO cY eU c9 cur 9 1 (L.map .str) (.inl (by decide)) (by rw [hlen]; simp) (fun i e he=>by
  rw [List.getElem?_map,Option.map_eq_some_iff] at he
  obtain ⟨f,hf,rfl⟩:=he
  refine ⟨rfl,fun j c hj=>?_⟩
  rcases j with _ | j
  ·simp only [V.cells,List.getElem?_cons_zero,Option.some.injEq] at hj
   subst hj
   rw [Q3 i f hf]
   exact ⟨rfl,rX f⟩
  ·simp [V.cells] at hj)
 have vS : (w.alloc (.cells cur 9)).shape? w.heap.size = some (9,L.length):=by
  have hh : (w.alloc (.cells cur 9)).heap[w.heap.size]? = some (.cells cur 9 (0,0)):=by
   show (w.heap.push _)[w.heap.size]? = _
   exact Array.getElem?_push_size
  rw [bJ hh,hlen]
 refine ⟨_,_,_,_,rfl,⟨b',c9,rfl,rfl⟩,h5,h6,?_⟩
 exact aP.own b' 1 0 L.length w.heap.size L.length L.length 9 (af _ _ _) vS (by omega) (Nat.le_refl _) (by unfold maxLen; omega)
theorem Hm (s : List UInt8) (hs : s.length < 4294967281) (hascii : ∀ b,b ∈ s -> b.toNat < 128) (bx : aa) : ay prog 49 [.str s] bx (.sl 1 ((Lib.fields s).map .str)):=by
 refine (Hl s hs hascii bx).adt ?_
 rintro r bx' ⟨b',aQ,rfl,rfl⟩
 refine ⟨bx,1,(((Ext.refl bx).aN aQ _).sub),?_,rfl⟩
 exact gb (af _ _ _) aQ (by decide) (by simp)
def Hn : List UInt8:=List.append [116,119,105,99,101,32,109,97,110,121,32,113,117,101,117,101,32,99,108,111,115,101,100,32,111,108,100,32,102,111,114,101,105,103,110,32,100,111,119] [110,32,112,114,111,98,101,32,111,118,101,114,116,97,107,101,32,114,101,112,101,97,116,32,108,101,102,116,32,98,97,99,107,32,115,116,114,97,121]
def oN : List (List UInt8):=[[116,119,105,99,101],[109,97,110,121],[113,117,101,117,101],[99,108,111,115,101,100],[111,108,100],[102,111,114,101,105,103,110],[100,111,119,110],[112,114,111,98,101],[111,118,101,114,116,97,107,101],[114,101,112,101,97,116],[108,101,102,116],[98,97,99,107],[115,116,114,97,121]]
theorem xZ : Lib.fields Hn = oN:=by decide
def lG (f : Int × Int) : List UInt8:=Lib.itoa f.2 ++ 32 :: (oN.getD (f.1 - 1).toNat [] ++ [10])
def jl (l : List (Int × Int)) : List UInt8 × Int:=if l.any (fun f=>decide (f.1 < 1) || decide (13 < f.1)) then ([],2) else (l.flatMap lG,0)
def inR (f : Int × Int) : Prop:=(-9223372036854775808 <= f.1 /\ f.1 <= 9223372036854775807) /\ -9223372036854775808 <= f.2 /\ f.2 <= 9223372036854775807
theorem ns {bx : aa} {b : Nat} (hb : bx b = none) : aA bx b none = bx:=by
 funext c
 by_cases e : c = b
 ·rw [e,af,hb]
 ·rw [ae _ _ e]
theorem tP (n : Nat) : (oN.getD n []).length <= 9:=by
 rcases Nat.lt_or_ge n 13 with h | h
 ·have : ∀ m : Fin 13,(oN.getD m.val []).length <= 9:=by decide
  exact this ⟨n,h⟩
 ·rw [List.getD_eq_getElem?_getD,List.getElem?_eq_none (by simpa [oN] using h)]; simp
theorem vK (f : Int × Int) (h : inR f) : (lG f).length <= 40:=by
 unfold lG
 have h1:=Lib.itoa_length_le f.2 h.2.1 h.2.2
 have h2:=tP (f.1 - 1).toNat
 simp only [List.length_append,List.length_cons,List.length_nil]
 omega
theorem En (l : List (Int × Int)) (h : ∀ f,f ∈ l -> inR f) : (l.flatMap lG).length <= 40 * l.length:=by
 induction l with
 | nil=>simp
 | cons f l ih =>
   have h1:=vK f (h f (by simp))
   have h2:=ih fun g hg=>h g (by simp [hg])
   rw [List.flatMap_cons,List.length_append,List.length_cons]
   omega
theorem JT (l : List (Int × Int)) (hl : l.length <= 1000) (hr : ∀ f,f ∈ l -> inR f) (bx : aa) : ay prog 24 [.sl 2 (l.map bH)] bx (.dh [.str (jl l).1,iI (jl l).2]):=by
 obtain ⟨Kc,fe⟩ : ∃ Kc : V -> aa -> Prop,Kc = fun r bx'=>r = .dh [.str (jl l).1,iI (jl l).2] /\ bx' = bx:=⟨_,rfl⟩
 show aw _ _ _ _ (fun r bx'=>r = .dh [.str (jl l).1,iI (jl l).2] /\ bx' = bx)
 rw [<- fe]
 refine UQ fun hf=>?_
 have cF:=fun bx'=>Hm Hn (by decide) (by decide) bx'
 rw [xZ] at cF
 simp [go_sem,C24,hf]
 intro b hb
 refine ag (cF _) ?_
 have hB:=HT.start hb hf
 have hsb : aA bx b (some (bI.row 122 2 [V.agg [V.eJ,V.aI]])) b = some (bI.row 122 2 [V.agg [V.eJ,V.aI]]):=af _ _ _
 generalize aA bx b (some (bI.row 122 2 [V.agg [V.eJ,V.aI]])) = bM at *
 obtain ⟨NL,Zx⟩ : ∃ NL,oN = NL:=⟨_,rfl⟩
 have hNl : NL.length = 13:=by rw [<- Zx]; rfl
 rw [Zx]
 simp [go_sem,hB.fin]
 refine ji (ι:=aa) l.length (fun k bx2=>HT bx bx2 b ((l.take k).flatMap lG) /\ (k = 0 -> bx2 = bM) /\ ∀ j (hj : j < l.length),j < k -> ¬ (l[j].1 < 1 \/ 13 < l[j].1)) (fun k bx2=>⟨40,bR [(4,.ptr b 2 0 0),(5,.sl 1 (NL.map .str)),(9,.sl 2 (l.map bH)),(10,.int .i64 l.length),(11,.int .i64 k)],bx2⟩) bM ⟨hB,fun _=>rfl,fun j hj h=>absurd h (Nat.not_lt_zero _)⟩ (al (by simp [go_sem])) (fun k bx2 hk hJ N hN=>?_) (fun bx2 hJ N=>?_)
 ·obtain ⟨Cy,_,ig⟩:=hJ
  have hw:=bt (k:=k) (by omega)
  have da:=Cy.fin
  have zX:=hr l[k] (List.getElem_mem hk)
  have dt:=En (l.take k) fun f hf=>hr f (List.mem_of_mem_take hf)
  rw [List.length_take] at dt
  simp [go_sem,FJ,hk,da,bH,iI,hNl]
  intro b7 Ec
  rw [ns Ec]
  refine ⟨fun h1=>?_,fun h1 h2=>?_⟩
  ·have hz : jl l = ([],2):=by
    unfold jl
    rw [if_pos (List.any_eq_true.2 ⟨l[k],List.getElem_mem hk,by simpa using h1⟩)]
   refine bC (by simp [go_sem]) Cy.ext ?_
   rw [fe,hz]
   exact ⟨by simp [go_sem,iI],rfl⟩
  ·refine ag (Hk l[k].2 zX.2.1 zX.2.2 _) ?_
   obtain ⟨m,hm,adv⟩ : ∃ m : Nat,l[k].1 = (m : Int) + 1 /\ m < 13:=⟨(l[k].1 - 1).toNat,by omega,by omega⟩
   have jd : IntKind.i64.wrap (l[k].1 - 1) = (m : Int):=by rw [ij (by omega)]; omega
   have hg : NL[m]? = some (NL.getD m []):=by rw [List.getD_eq_getElem?_getD,List.getElem?_eq_getElem (by omega)]; rfl
   have yf:=Lib.itoa_length_le l[k].2 zX.2.1 zX.2.2
   have lM : (NL[m]'(by omega)).length <= 9:=by
    have:=tP m
    rw [Zx,List.getD_eq_getElem?_getD,List.getElem?_eq_getElem (by omega)] at this
    exact this
   have Lq : lG l[k] = Lib.itoa l[k].2 ++ 32 :: (NL[m]'(by omega) ++ [10]):=by
    unfold lG
    rw [Zx,show (l[k].1 - 1).toNat = m by omega,List.getD_eq_getElem?_getD,List.getElem?_eq_getElem (show m < NL.length by omega)]
    rfl
   have Zw:=uH Cy (lG l[k]) (by have:=vK l[k] zX; omega)
   rw [Lq] at Zw
   simp [go_sem,da,jd,adv,hNl,hg]
   refine ⟨by omega,by omega,by omega,by omega,an Zw ?_⟩
   rintro r bx3 ⟨rfl,hB3⟩
   rw [<- Lq] at hB3
   simp [go_sem,hB3.fin,hw]
   refine hN _ bx3 ⟨?_,fun h=>by omega,fun j hj BF=>?_⟩ (al (by simp [go_sem]))
   ·rw [List.take_succ_eq_append_getElem hk,List.flatMap_append]
    simpa using hB3
   ·rcases Nat.lt_or_ge j k with h | h
    ·exact ig j hj h
    ·have : j = k:=by omega
     subst this
     omega
 ·obtain ⟨Cy,h0,ig⟩:=hJ
  have da:=Cy.fin
  rw [List.take_of_length_le (Nat.le_refl _)] at Cy
  have hz : jl l = (l.flatMap lG,0):=by
   unfold jl
   rw [if_neg]
   intro h
   obtain ⟨f,bg,da⟩:=List.any_eq_true.1 h
   obtain ⟨j,hj,rfl⟩:=List.getElem_of_mem bg
   exact ig j hj hj (by simpa using da)
  simp [go_sem,FJ,da]
  by_cases QC : l.length = 0
  ·have BW : l = []:=List.length_eq_zero_iff.1 QC
   rw [h0 QC] at Cy ⊢
   refine an (Hi hsb) ?_
   rintro r bx' ⟨rfl,rfl⟩
   simp [go_sem,Cy.fin]
   refine bC (by simp [go_sem]) Cy.ext ?_
   rw [fe,hz,BW]
   exact ⟨by simp [go_sem,iI],rfl⟩
  ·have bp : l.flatMap lG ≠ []:=by
    cases l with
    | nil=>simp at QC
    | cons f l=>rw [List.flatMap_cons]; unfold lG; simp
   refine an (Hh Cy bp) ?_
   rintro r bx' ⟨rfl,he,J4⟩
   simp [go_sem,J4]
   refine bC (by simp [go_sem]) he ?_
   rw [fe,hz]
   exact ⟨by simp [go_sem,iI],rfl⟩
end Go.Proofs
namespace Go.Proofs
open Go Go.Pl Tryz
theorem Lr (L : List fb) (most : Int) (l m : List Ex) (hl : l.length + m.length <= 100000) {bx : aa} {bm : Nat} (HQ : bx bm = some (.row 69 8 (m.map fY))) {n : Nat} (hn : n = m.length) : ay prog 32 [eF L most l,.own bm 8 0 n] bx (eF L most (l ++ m)):=by
 subst hn
 refine ay.wk ?_
 refine US fun hf=>?_
 simp [go_sem,C32,hf,eF]
 intro b0 h0 b1 h1 b2 h2
 have n01 : b0 ≠ b1:=by rintro rfl; simp [af] at h1
 have n12 : b1 ≠ b2:=by rintro rfl; simp [af] at h2
 have n02 : b0 ≠ b2:=by rintro rfl; simp [af,ae _ _ n01] at h2
 have r9 : bx b1 = none:=by rwa [ae _ _ n01.symm] at h1
 have WC : bx b2 = none:=by rwa [ae _ _ n12.symm,ae _ _ n02.symm] at h2
 simp [go_sem,af,ae _ _ n01,ae _ _ n02]
 obtain ⟨bx3,wG⟩ : ∃ bx3,aA (aA (aA bx b0 (some (bI.row 25 3 [V.agg [V.sl 4 (L.map bT),iI most,V.sl 8 (l.map fY)]]))) b1 (some (bI.row 25 3 [V.agg [V.aI,V.int .i64 0,V.aI]]))) b2 (some (bI.row 69 8 [])) = bx3:=⟨_,rfl⟩
 have ho : bd bx3 69 8 [] (.own b2 8 0 0):=.inr ⟨b2,rfl,by rw [<- wG,af]⟩
 have hn : ll bx (.own b2 8 0 0):=fun b sz o m e=>by injection e with e; rw [<- e]; exact WC
 have lu : bj bx3:=by rw [<- wG]; exact (ar _ _ _).2 ((ar _ _ _).2 ((ar _ _ _).2 hf))
 have pD : Ext bx bx3:=by rw [<- wG]; exact (((Ext.refl bx).aN h0 _).aN r9 _).aN WC _
 have r0 : bx3 b0 = some (bI.row 25 3 [V.agg [V.sl 4 (L.map bT),iI most,V.sl 8 (l.map fY)]]):=by rw [<- wG,ae _ _ n02,ae _ _ n01,af]
 have r1 : bx3 b1 = some (bI.row 25 3 [V.agg [V.aI,V.int .i64 0,V.aI]]):=by rw [<- wG,ae _ _ n12,af]
 rw [wG]
 clear wG h1 h2
 refine ey (.agg #[.int .i64 0,.int .i64 0,.int .i64 0,.int .i64 0,.int .i64 0,.int .i64 0,.int .i64 0,.bool false]) ho lu (news:=l.map fY) zf vk (by simp [bP]) rY (by simp [go_sem]) (by decide) (by simp [Cb]; omega) (by simp; omega) (by simp [go_sem]) fun v4 bx4 ha4 hm4 _=>?_
 obtain ⟨x4,n4⟩:=hm4.base pD hn
 have s0:=(hm4.other (by rw [r0]; simp) (fun sz o m e=>by injection e with e; exact n02 e.symm)).trans r0
 have s1:=(hm4.other (by rw [r1]; simp) (fun sz o m e=>by injection e with e; exact n12 e.symm)).trans r1
 have nR:=hm4.fin
 clear ho hn hm4 r0 r1 lu pD
 rw [List.nil_append] at ha4
 simp [go_sem,nR,ha4.strip,ha4.live,ha4.cells,ha4.okV]
 have sm:=(x4 bm (by rw [HQ]; simp)).trans HQ
 have nv0:=ha4.ne s0 (by decide)
 have nv1:=ha4.ne s1 (by decide)
 refine ey (.agg #[.int .i64 0,.int .i64 0,.int .i64 0,.int .i64 0,.int .i64 0,.int .i64 0,.int .i64 0,.bool false]) ha4 nR (news:=m.map fY) zf vk (by simp [bP,sm]; rw [List.take_of_length_le (by simp)]) rY (by simp [go_sem]) (by decide) (by simp [Cb]; omega) (by simp; omega) (by simp [go_sem]) fun v5 kd ha5 hm5 _=>?_
 obtain ⟨x5,n5⟩:=hm5.base x4 n4
 have u0:=(hm5.other (by rw [s0]; simp) nv0).trans s0
 have u1:=(hm5.other (by rw [s1]; simp) nv1).trans s1
 have pE:=hm5.fin
 simp [go_sem,pE,ha5.strip,ha5.live,ha5.cells,ha5.okV,u0,u1,af,ae _ _ n01.symm,ar]
 have ha6:=(ha5.put u0 (by decide) (some (bI.row 25 3 [V.agg [V.sl 4 (L.map bT),iI most,v5]])))
 have ha7:=(ha6.put (p:=b1) (by rw [ae _ _ n01.symm]; exact u1) (by decide) (some (bI.row 25 3 [V.agg [V.sl 4 (L.map bT),iI most,v5]])))
 refine fO 2 (by simp [go_sem,af,ha5.live,ha5.okV]) ((x5.aN h0 _).aN r9 _) ?_
 refine ⟨?_,rfl⟩
 have e5 : ∀ bb : aa,bd bb 69 8 (l.map fY ++ m.map fY) v5 -> Wk (dA bb bx 1 v5) (.sl 8 (l.map fY ++ m.map fY)):=fun bb hb=>by
  rcases hb with ⟨h0,rfl⟩ | ⟨b3,rfl,rG⟩
  ·rw [h0]; exact wR 8
  ·rw [gb rG (n5 _ _ _ _ rfl) (by decide) rfl]; exact Wk.refl _
 have e6:=e5 _ ha7
 simp [go_sem,af,dA,ha5.strip]
 refine IG rfl fun i c d hc hd=>?_
 rcases i with _ | _ | _ | i
 ·injection hc with hc; injection hd with hd; rw [<- hc,<- hd]; exact Wk.refl _
 ·injection hc with hc; injection hd with hd; rw [<- hc,<- hd]; exact Wk.refl _
 ·injection hc with hc; injection hd with hd; rw [<- hc,<- hd]; exact e6
 ·cases hc
instance (e : Ex) : Decidable (NE e):=inferInstanceAs (Decidable (_ = _))
theorem Ls : ∀ e,e ∈ Bw -> NE e:=by decide
theorem JU : ∀ e,e ∈ tN -> NE e:=by decide
theorem JV : ∀ e,e ∈ tO -> NE e:=by decide
theorem JW : eH yo 1 Bw = ([],0):=by decide
theorem Ho : en yo 1 Bw = ([⟨7,0,1,2,-1,20,30⟩],0):=by decide
theorem Eo : eH yo 1 tN = ([(5,10)],0):=by decide
theorem Hp : jl [(11,2)] = ([50,32,108,101,102,116,10],0):=by
 have h : Lib.itoa 2 = [50]:=by unfold Lib.itoa; rw [if_neg (by omega),Lib.decDigits_one (by omega)]; rfl
 unfold jl
 simp [lG,h,oN]
theorem CN (bx : aa) : ay prog 12 [] bx (.bool true):=by
 have cE:=fun bx'=>Ej bx'
 have cF:=fun bx'=>xP yo 1 Bw (by decide) (by decide) Ls bx'
 rw [JW] at cF
 have cL:=fun bx'=>CL yo 1 Bw (by decide) (by decide) Ls bx'
 rw [Ho] at cL
 have cG:=fun bx'=>xP yo 1 tN (by decide) (by decide) JU bx'
 rw [Eo] at cG
 have cC:=fun bx'=>WA yo 1 tO (by decide) (by decide) JV bx'
 rw [ex5] at cC
 have cP:=fun bx'=>JT [(11,2)] (by decide) (by intro f hf; simp at hf; subst hf; exact ⟨by decide,by decide⟩) bx'
 rw [Hp] at cP
 have cV:=fun bx'=>CM [⟨7,0,1,2,-1,20,30⟩] [⟨7,0,1,2,-1,20,30⟩] (by decide) bx'
 have cS:=fun bx'=>Hd [(5,10)] [(5,10)] (by decide) bx'
 refine UG fun hf=>?_
 simp [go_sem,C12,hf]
 refine ag (cE _) ?_
 have ev : ∀ L m l,∃ lv,eF L m l = lv /\ lv.strip = lv /\ lv.ax = true /\ okV lv = true /\ lv.cells.length = 3 /\ V.agg (List.take 3 lv.cells) = lv /\ ba (V.agg [.aI,.int .i64 0,.aI]) 0 lv.cells = lv:=fun L m l=>⟨_,rfl,rfl,rfl,rfl,rfl,rfl,rfl⟩
 obtain ⟨vE,hE,e1,e2,e3,e4,e5,e6⟩:=ev yo 1 Bw
 rw [hE] at cF cL ⊢
 simp [go_sem,e1,e2,e3,e4,e5]
 refine ag (cF _) ?_
 simp [go_sem,hf,iI]
 refine ag (cE _) ?_
 rw [hE]
 simp [go_sem,e1,e2,e3,e4,e5]
 refine ag (cL _) ?_
 simp [go_sem,hf,iI]
 refine ag (cE _) ?_
 rw [hE]
 simp [go_sem,hf,iI,e1,e2,e3,e4,e5]
 intro b3 rG
 have pD : Ext bx (aA bx b3 (some (bI.row 69 8 [V.agg [V.int .i64 1,V.int .i64 0,V.int .i64 15,V.int .i64 2,V.int .i64 0,V.int .i64 0,V.int .i64 0,V.bool false],V.agg [V.int .i64 2,V.int .i64 0,V.int .i64 15,V.int .i64 2,V.int .i64 0,V.int .i64 0,V.int .i64 0,V.bool false],V.agg [V.int .i64 8,V.int .i64 0,V.int .i64 15,V.int .i64 2,V.int .i64 7,V.int .i64 0,V.int .i64 0,V.bool false]]))):=(Ext.refl bx).aN rG _
 have lu : bj (aA bx b3 (some (bI.row 69 8 [V.agg [V.int .i64 1,V.int .i64 0,V.int .i64 15,V.int .i64 2,V.int .i64 0,V.int .i64 0,V.int .i64 0,V.bool false],V.agg [V.int .i64 2,V.int .i64 0,V.int .i64 15,V.int .i64 2,V.int .i64 0,V.int .i64 0,V.int .i64 0,V.bool false],V.agg [V.int .i64 8,V.int .i64 0,V.int .i64 15,V.int .i64 2,V.int .i64 7,V.int .i64 0,V.int .i64 0,V.bool false]]))):=(ar _ _ _).2 hf
 have DF : aA bx b3 (some (bI.row 69 8 [V.agg [V.int .i64 1,V.int .i64 0,V.int .i64 15,V.int .i64 2,V.int .i64 0,V.int .i64 0,V.int .i64 0,V.bool false],V.agg [V.int .i64 2,V.int .i64 0,V.int .i64 15,V.int .i64 2,V.int .i64 0,V.int .i64 0,V.int .i64 0,V.bool false],V.agg [V.int .i64 8,V.int .i64 0,V.int .i64 15,V.int .i64 2,V.int .i64 7,V.int .i64 0,V.int .i64 0,V.bool false]])) b3 = some (.row 69 8 ([l6 1 2 0 15 0 0 false,l6 2 2 0 15 0 0 false,l6 8 2 7 15 0 0 false].map fY)):=af _ _ _
 generalize aA bx b3 _ = bx3 at *
 have cA:=Lr yo 1 Bw [l6 1 2 0 15 0 0 false,l6 2 2 0 15 0 0 false,l6 8 2 7 15 0 0 false] (by decide) DF (n:=3) rfl
 rw [hE,show Bw ++ [l6 1 2 0 15 0 0 false,l6 2 2 0 15 0 0 false,l6 8 2 7 15 0 0 false] = tN from rfl] at cA
 refine ag cA ?_
 obtain ⟨vG,hG,g1,g2,g3,g4,g5,g6⟩:=ev yo 1 tN
 rw [hG] at cG ⊢
 simp [go_sem,lu,iI,g1,g2,g3,g4,g5,g6]
 intro b5 Li
 rw [ns Li]
 refine ag (cG _) ?_
 simp [go_sem,lu,iI]
 refine ag (cE _) ?_
 rw [hE]
 simp [go_sem,lu,iI,e1,e2,e3,e4,e5]
 intro b4 xN
 have BY : Ext bx (aA bx3 b4 (some (bI.row 69 8 [V.agg [V.int .i64 18,V.int .i64 0,V.int .i64 6,V.int .i64 0,V.int .i64 0,V.int .i64 0,V.int .i64 0,V.bool false],V.agg [V.int .i64 19,V.int .i64 0,V.int .i64 6,V.int .i64 0,V.int .i64 0,V.int .i64 0,V.int .i64 0,V.bool false]]))):=pD.aN (pD.none xN) _
 have nR : bj (aA bx3 b4 (some (bI.row 69 8 [V.agg [V.int .i64 18,V.int .i64 0,V.int .i64 6,V.int .i64 0,V.int .i64 0,V.int .i64 0,V.int .i64 0,V.bool false],V.agg [V.int .i64 19,V.int .i64 0,V.int .i64 6,V.int .i64 0,V.int .i64 0,V.int .i64 0,V.int .i64 0,V.bool false]]))):=(ar _ _ _).2 lu
 have XJ : aA bx3 b4 (some (bI.row 69 8 [V.agg [V.int .i64 18,V.int .i64 0,V.int .i64 6,V.int .i64 0,V.int .i64 0,V.int .i64 0,V.int .i64 0,V.bool false],V.agg [V.int .i64 19,V.int .i64 0,V.int .i64 6,V.int .i64 0,V.int .i64 0,V.int .i64 0,V.int .i64 0,V.bool false]])) b4 = some (.row 69 8 ([l6 18 0 0 6 0 0 false,l6 19 0 0 6 0 0 false].map fY)):=af _ _ _
 generalize aA bx3 b4 _ = bx4 at *
 have cB:=Lr yo 1 Bw [l6 18 0 0 6 0 0 false,l6 19 0 0 6 0 0 false] (by decide) XJ (n:=2) rfl
 rw [hE,show Bw ++ [l6 18 0 0 6 0 0 false,l6 19 0 0 6 0 0 false] = tO from rfl] at cB
 refine ag cB ?_
 obtain ⟨vO,hO,o1,o2,o3,o4,o5,o6⟩:=ev yo 1 tO
 rw [hO] at cC ⊢
 simp [go_sem,nR,iI,o1,o2,o3,o4,o5,o6]
 intro b8 hb8
 rw [ns hb8]
 refine ag (cC _) ?_
 have lI : xY yo 1 ([l6 1 1 0 0 0 0 true,l6 18 0 0 6 0 0 false,l6 19 0 0 6 0 0 false],0) = .agg [.sl 4 (yo.map bT),.int .i64 1,.sl 8 ([l6 1 1 0 0 0 0 true,l6 18 0 0 6 0 0 false,l6 19 0 0 6 0 0 false].map fY)]:=rfl
 rw [lI]
 simp [go_sem,nR,iI]
 intro b9 hb9
 rw [ns hb9]
 intro b10 hb10
 have JD : Ext bx (aA bx4 b10 (some (bI.row 66 2 [V.agg [V.int .i64 11,V.int .i64 2]]))):=BY.aN (BY.none hb10) _
 have pE : bj (aA bx4 b10 (some (bI.row 66 2 [V.agg [V.int .i64 11,V.int .i64 2]]))):=(ar _ _ _).2 nR
 have hr5 : aA bx4 b10 (some (bI.row 66 2 [V.agg [V.int .i64 11,V.int .i64 2]])) b10 = some (bI.row 66 2 [V.agg [V.int .i64 11,V.int .i64 2]]):=af _ _ _
 generalize aA bx4 b10 _ = kd at *
 have cP2:=ay.frame (bx:=kd) (args:=[.own b10 2 0 1]) 1 (cP _) (by simp [dA,hr5,bH,iI]) rfl
 refine ag cP2 ?_
 simp [go_sem,pE,iI]
 intro b11 hb11
 have hx6 : Ext bx (aA kd b11 (some (bI.row 77 7 [V.agg [V.int .i64 7,V.int .i64 0,V.int .i64 1,V.int .i64 2,V.int .i64 (-1),V.int .i64 20,V.int .i64 30]]))):=JD.aN (JD.none hb11) _
 have HP : bj (aA kd b11 (some (bI.row 77 7 [V.agg [V.int .i64 7,V.int .i64 0,V.int .i64 1,V.int .i64 2,V.int .i64 (-1),V.int .i64 20,V.int .i64 30]]))):=(ar _ _ _).2 pE
 have hr6 : aA kd b11 (some (bI.row 77 7 [V.agg [V.int .i64 7,V.int .i64 0,V.int .i64 1,V.int .i64 2,V.int .i64 (-1),V.int .i64 20,V.int .i64 30]])) b11 = some (bI.row 77 7 [V.agg [V.int .i64 7,V.int .i64 0,V.int .i64 1,V.int .i64 2,V.int .i64 (-1),V.int .i64 20,V.int .i64 30]]):=af _ _ _
 generalize aA kd b11 _ = rI at *
 have cV2:=ay.frame (bx:=rI) (args:=[.sl 7 [zP ⟨7,0,1,2,-1,20,30⟩],.own b11 7 0 1]) 1 (cV _) (by simp [dA,hr6,zP,iI]) rfl
 refine dn cV2 (by simp) (by simp [go_sem]) ?_
 simp [go_sem,HP,iI]
 intro b12 hb12
 have OD : Ext bx (aA rI b12 (some (bI.row 66 2 [V.agg [V.int .i64 5,V.int .i64 10]]))):=hx6.aN (hx6.none hb12) _
 have Ll : bj (aA rI b12 (some (bI.row 66 2 [V.agg [V.int .i64 5,V.int .i64 10]]))):=(ar _ _ _).2 HP
 have hr7 : aA rI b12 (some (bI.row 66 2 [V.agg [V.int .i64 5,V.int .i64 10]])) b12 = some (bI.row 66 2 [V.agg [V.int .i64 5,V.int .i64 10]]):=af _ _ _
 generalize aA rI b12 _ = bx7 at *
 have cS2:=ay.frame (bx:=bx7) (args:=[.sl 2 [bH (5,10)],.own b12 2 0 1]) 1 (cS _) (by simp [dA,hr7,bH,iI]) rfl
 refine dn cS2 (by simp) (by simp [go_sem]) ?_
 simp [go_sem,Ll,iI]
 refine ⟨by decide,dn (cE _) (by simp) (by simp [go_sem]) ?_⟩
 simp [go_sem,Ll,eF,Bw,yo,l6,fY,dL,iI]
 refine bC (by simp [go_sem]) OD ⟨by simp [go_sem],rfl⟩
end Go.Proofs
