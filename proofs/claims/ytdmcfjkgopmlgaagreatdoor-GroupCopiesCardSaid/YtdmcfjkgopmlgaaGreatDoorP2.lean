import Derived.Test.YtdmcfjkgopmlgaaGreatDoorP1
import Derived.Scope
set_option linter.unusedVariables false
set_option linter.unusedSimpArgs false
set_option linter.unusedSectionVars false
namespace Go.Proofs.YtdmcfjkgopmlgaaGreatDoor.Ev
open Go Go.RowKit
section
variable {P:Program} {w0:Base}
def ZE(P:Program)(w0:Base)(call:zU):Prop:=
 ∀(f:Nat) (args:List FV) (h:LH) (v:FV) (h':LH) (ρ:Nat→Ph) (w:World),call f args h=some (v,h')→Rel P w0 ρ h w→(∀u∈args,wfV ρ h.length u)→
  (∃ fn, P.funcs[f]? = some fn ∧ fn.name ≠ "runtime.NumGoroutine" ∧ fn.body.isSome = true) ∧
  Calls P f (args.map (cv ρ)).toArray w fun e w'=>∃ρ',e= .returned (cv ρ' v)∧Rel P w0 ρ' h' w'∧Ext h.length ρ ρ'∧h.length≤h'.length∧wfV ρ' h'.length v
section
variable {ρ:Nat→Ph} {h:LH} {w:World} {N:Nat} {fr:Fr} {a:Act} {Q:Exit→Act→World→Prop}
theorem           Zz {f : Nat} {args : Array Value} (hf : ∃ fn, P.funcs[f]? = some fn ∧ fn.name ≠ "runtime.NumGoroutine" ∧ fn.body.isSome = true) : (callFunc f args).run P w = .ok (.enter f args) w := by
 obtain⟨fn,h1,h2,h3⟩:=hf;have h4:fn.body.isNone=false:=by
  cases hb:fn.body
  ·rw[hb] at h3;cases h3
  ·rfl
 have hn : (fn.name == "runtime.NumGoroutine") = false := by simpa using h2
 simp[callFunc,h1,h2,hn,h4,-Option.isNone_eq_false_iff,-Option.isNone_iff_eq_none]
theorem zsm{v:FV}{n:Nat}(hv:wf1 ρ n v):c1 ρ v=cv ρ v:=(zbi hv).symm
theorem ziS(R:Rel P w0 ρ h w)(hF:FrR ρ h.length N fr a){o:Oper}{e:EO}(hc:Q7 P o.type o.op=some e)(hi:zbf o.op=true){f:Nat}{args:List FV}(he:jR fr h e=some (f,args)):
 (∀ u ∈ args, wfV ρ h.length u) ∧ ((∃ fn, P.funcs[f]? = some fn ∧ fn.name ≠ "runtime.NumGoroutine" ∧ fn.body.isSome = true) →
 (execOp a.eval o).run P w= .ok (.enter f (args.map (cv ρ)).toArray) w):=by
 cases hop:o.op
 case call c=>
  rw[hop] at hc;unfold execOp;rw[hop];simp only[Q7,zc4] at hc;split at hc
  ·rename_i b hb;rw[hop] at hi;simp[zbf,hb] at hi
  ·rename_i f' hcal;split at hc
   ·obtain⟨ys,hys,rfl⟩:=zuM.1 hc;simp only[jR] at he;obtain⟨vs,hvs,hq⟩:=zuM.1 he;obtain⟨rfl,rfl⟩:=zu5 hq;obtain⟨e1,e2⟩:=qV hF hys hvs;refine⟨e2,fun hf=> ?_⟩;have ea:c.args.map a.eval=(vs.map (cv ρ)).toArray:=by apply zxq;simpa using e1
    simp only[resolve,hcal,Act.eval,Deferred.ofValue,pure_bind,invoke];have:c.args.map (fun x=>a.eval x)=(vs.map (cv ρ)).toArray:=ea;have hsimp:(#[]++Array.map a.eval c.args)++ #[]=(vs.map (cv ρ)).toArray:=by simp[ea]
    rw[←hsimp];simp only[hsimp]
    first
     |exact Zz hf
     |(rw[show(#[]++Array.map a.eval c.args++ #[]:Array Value)=(vs.map (cv ρ)).toArray from hsimp];exact Zz hf)
   ·cases hc
  ·rename_i t hcal;obtain⟨ys,hys,rfl⟩:=zuM.1 hc;simp only[jR] at he;split at he
   ·rename_i f' vs hf' hvs;obtain⟨rfl,rfl⟩:=zu5 (zuK he);obtain⟨e1,e2⟩:=qV hF hys hvs;obtain⟨e3,_⟩:=zh (x:= .tmp t) hF rfl hf';refine⟨e2,fun hf=> ?_⟩;have ea:c.args.map a.eval=(vs.map (cv ρ)).toArray:=by apply zxq;simpa using e1
    simp only[resolve,hcal,e3,c0,Deferred.ofValue,pure_bind,invoke];rw[show(#[]++Array.map a.eval c.args++ #[]:Array Value)=(vs.map (cv ρ)).toArray by simp[ea]];exact Zz hf
   ·rename_i i vs hi' hvs;split at he
    ·rename_i f' first caps hob
     obtain⟨rfl,rfl⟩:=zu5 (zuK he);obtain⟨e1,e2⟩:=qV hF hys hvs;obtain⟨e3,_⟩:=zh (x:= .tmp t) hF rfl hi';obtain⟨q1,q2,q3⟩:=R.obj i _ hob;refine⟨fun u hu=> ?_,fun hf=> ?_⟩
     ·rcases zuX.1 hu with hu|hu
      ·rcases zuX.1 hu with hu|hu
       ·exact Jq (q2 u hu)
       ·exact e2 u hu
      ·exact Jq (q3 u hu)
     ·have ea:c.args.map a.eval=(vs.map (cv ρ)).toArray:=by apply zxq;simpa using e1
      have e4:a.eval (.tmp t)= .func (.func f') (first.map (c1 ρ)).toArray (caps.map (c1 ρ)).toArray:=by rw[e3];exact q1
      simp only[resolve,hcal,e4,Deferred.ofValue,pure_bind,invoke];rw[show((first.map (c1 ρ)).toArray++Array.map a.eval c.args++(caps.map (c1 ρ)).toArray:Array Value)=((first++vs++caps).map (cv ρ)).toArray by
       rw[ea,zvs,zvs,zvz fun u hu=>zsm (q2 u hu),zvz fun u hu=>zsm (q3 u hu)];simp]
      exact Zz hf
    ·cases he
   ·cases he
  ·cases hc
 all_goals
  rw[hop] at hi;cases hi
theorem zgO{call:zU}(hcall:ZE P w0 call)(R:Rel P w0 ρ h w)(hF:FrR ρ h.length N fr a){o:Oper}{e:EO}(hc:Q7 P o.type o.op=some e)(hn:jz e=true→zbf o.op=true){v:FV}{h':LH}(he:zK call fr h e=some (v,h'))
 {K:Act→World→Prop} (hK:∀ρ' w',Rel P w0 ρ' h' w'→Ext h.length ρ ρ'→h.length≤h'.length→wfV ρ' h'.length v→K (a.put o.dst (cv ρ' v)) w'):o.wp P a w K Q:=by
 unfold zK at he;split at he
 ·rename_i hi;split at he
  ·rename_i f args hce;obtain⟨hwf,hrun⟩:=ziS R hF hc (hn hi) hce;obtain⟨hf,hcalls⟩:=hcall f args h v h' ρ w he R hwf;unfold Oper.wp;rw[hrun hf,Oper.upon_enter];refine Calls.mono hcalls fun e w' hq=> ?_;obtain⟨ρ',rfl,q1,q2,q3,q4⟩:=hq;exact hK ρ' w' q1 q2 q3 q4
  ·cases he
 ·obtain⟨r,ρ',w',hr,hrv,q1,q2,q3,q4⟩:=ztU R hF hc he;unfold Oper.wp;rw[hr];rcases hrv with rfl|⟨rfl,hu⟩
  ·rw[Oper.upon_value];exact hK ρ' w' q1 q2 q3 q4
  ·rw[Oper.upon_skip,←hu];exact hK ρ' w' q1 q2 q3 q4
theorem zaw{ops:Array Oper}{o:Oper}{g:EG}(hc:zeC P N ops o=some g):
 (∀t,o.dst=some t→t<N)∧g.dst=o.dst∧(Q7 P o.type o.op=some g.op∧(jz g.op=true→zbf o.op=true))∧((o.guard=none∧g.guard=none)∨∃j b s,o.guard=some (j,b)∧(ops[j]?).bind (·.dst)=some s∧g.guard=some (s,b)):=by
 unfold zeC at hc;split at hc
 ·rename_i hd;have hd':∀t,o.dst=some t→t<N:=by
   intro t ht;rw[ht] at hd;exact of_decide_eq_true hd
  split at hc
  ·rename_i e he;split at hc
   ·cases hc
   ·rename_i hcall;have hcall':jz e=true→zbf o.op=true:=by
     intro h1;rw[h1] at hcall;simpa using hcall
    split at hc
    ·rename_i hg;obtain rfl:=zuK hc;exact⟨hd',rfl,⟨he,hcall'⟩,.inl ⟨hg,rfl⟩⟩
    ·rename_i j b hg;split at hc
     ·rename_i s hs;obtain rfl:=zuK hc;exact⟨hd',rfl,⟨he,hcall'⟩,.inr ⟨j,b,s,hg,hs,rfl⟩⟩
     ·cases hc
  ·cases hc
 ·cases hc
theorem zba{n:Nat}(hF:FrR ρ n N fr a){ops:Array Oper}{o:Oper}{g:EG}(hc:zeC P N ops o=some g){b:Bool}(he:jo fr g.guard=some b):Region.wanted o (yielded ops a.tmps)=b:=by
 obtain⟨_,_,_,hg⟩:=zaw hc;unfold Region.wanted;rcases hg with⟨h1,h2⟩|⟨j,c,s,h1,h2,h3⟩
 ·rw[h2] at he;rw[h1];exact zuK he
 ·rw[h3] at he;rw[h1];simp only[jo] at he;have key:∀v,yj fr s=some v→a.tmps[s]? =some (cv ρ v):=by
   intro v hv;obtain⟨q1,q2,q3⟩:=hF.get s v hv;have hs:s<a.tmps.size:=by rw[hF.size];exact q1
   rw[zvK hs];rw[zvP,zvK hs] at q2;exact congrArg some q2
  split at he
  ·rename_i t ht;obtain rfl:=zuK he;have:=key _ ht;simp only[yielded,h2,zwv,this,cv,c0];cases t<;>cases c<;>rfl
  ·rename_i ht;obtain rfl:=zuK he;have:=key _ ht;simp only[yielded,h2,zwv,this,cv];cases c<;>rfl
  ·cases he
theorem zbH{call:zU}(hcall:ZE P w0 call){ops:Array Oper}:∀(l:List Oper) (gs:List EG) (fr:Fr) (h:LH) (fr':Fr) (h':LH) (ρ:Nat→Ph) (a:Act) (w:World),Zj P N ops l=some gs→jU call gs fr h=some (fr',h')→Rel P w0 ρ h w→FrR ρ h.length N fr a→
 (∀ρ' a' w',Rel P w0 ρ' h' w'→FrR ρ' h'.length N fr' a'→Ext h.length ρ ρ'→h.length≤h'.length→Q .normal a' w')→wpList P ops Q l a w
 |[],gs,fr,h,fr',h',ρ,a,w,hc,he,R,hF,hQ=>by
  simp only[Zj,zuI] at hc;subst hc;simp only[jU,zuI,zuL] at he;obtain⟨rfl,rfl⟩:=he;exact hQ ρ a w R hF (Ext.refl _ _) (zuQ _)
 |o::l,gs,fr,h,fr',h',ρ,a,w,hc,he,R,hF,hQ=>by
  simp only[Zj] at hc;split at hc
  ·rename_i g hg;obtain⟨gs',hgs,rfl⟩:=zuM.1 hc;obtain⟨d1,d2,d3,d4⟩:=zaw hg;simp only[jU] at he;unfold wpList;split at he
   ·rename_i hw;rw[zba hF hg hw,zuT rfl];split at he
    ·rename_i v h1 hs;refine .inl (zgO hcall R hF d3.1 d3.2 hs fun ρ1 w1 q1 q2 q3 q4=> ?_);rw[d2] at he;exact zbH hcall l gs' _ h1 fr' h' ρ1 _ w1 hgs he q1 ((hF.ext q2 q3).put d1 q4) (fun ρ2 a2 w2 r1 r2 r3 r4=>hQ ρ2 a2 w2 r1 r2 (q2.trans q3 r3) (by omega))
    ·cases he
   ·rename_i hw;rw[zba hF hg hw,zuV (by decide)];rw[d2] at he;have hu:(undef:Value)=cv ρ (.tup []):=rfl;rw[hu];exact zbH hcall l gs' _ h fr' h' ρ _ w hgs he R (hF.put d1 (v:= .tup []) (fun v hv=>by cases hv)) hQ
   ·cases he
  ·cases hc
end
end
end Go.Proofs.YtdmcfjkgopmlgaaGreatDoor.Ev
namespace Go.Proofs.YtdmcfjkgopmlgaaGreatDoor.Ev
open Go
theorem zm8{h h':LH}{t z y n:Nat}{x:SV}{new:List SV}{v:FV}(he:ZF h t z y x n new=some (v,h')):h.length≤h'.length:=by
 unfold ZF at he
 (repeat' split at he)<;>simp at he<;>(try obtain⟨_,rfl⟩:=he)<;>simp
theorem zq8{fr:Fr}{h h':LH}{op:EO}{v:FV}(he:opE fr h op=some (v,h')):h.length≤h'.length:=by
 cases op<;>first
  |(simp only[opE] at he
    (repeat' split at he)<;>(try simp_all [zuM])<;>first|exact zm8 he|grind)
def YB(call:zU):Prop:=∀f args h v h',call f args h=some (v,h')→h.length≤h'.length
theorem zbJ{call:zU}(g:YB call){fr:Fr}{h h':LH}{op:EO}{v:FV}(he:zK call fr h op=some (v,h')):h.length≤h'.length:=by
 unfold zK at he;split at he
 ·split at he
  ·exact g _ _ _ _ _ he
  ·cases he
 ·exact zq8 he
theorem Jm{call:zU}(g:YB call):∀(l:List EG) (fr:Fr) (h:LH) (tr:List (Option TE)) (fr':Fr) (h':LH),y8 call l fr h=some (tr,fr',h')→h.length≤h'.length
 |[],fr,h,tr,fr',h',he=>by
  simp only[y8,zuI,zuL] at he;obtain⟨_,_,rfl⟩:=he;exact zuQ _
 |x::l,fr,h,tr,fr',h',he=>by
  simp only[y8] at he;split at he
  ·split at he
   ·rename_i v h1 hv;obtain⟨⟨tr1,fr1,h2⟩,h3,hq⟩:=zuM.1 he;simp only[zuL] at hq;obtain⟨rfl,rfl,rfl⟩:=hq;exact zvB (zbJ g hv) (Jm g l _ _ _ _ _ h3)
   ·cases he
  ·obtain⟨⟨tr1,fr1,h2⟩,h3,hq⟩:=zuM.1 he;simp only[zuL] at hq;obtain⟨rfl,rfl,rfl⟩:=hq;exact Jm g l _ _ _ _ _ h3
  ·cases he
theorem zlI{call:zU}(g:YB call){l:List EG}{ps:List (Nat×Nat)}{fr fr':Fr}{h h':LH}(he:Zv call l ps fr h=some (fr',h')):h.length≤h'.length:=by
 unfold Zv at he;split at he
 ·rename_i tr fr1 h1 htr;split at he
  ·simp only[zuI,zuL] at he;obtain⟨rfl,rfl⟩:=he;exact Jm g _ _ _ _ _ _ htr
  ·cases he
 ·cases he
theorem zeX{body:Fr→LH→Out}(hb:∀fr h x fr' h',body fr h=some (x,fr',h')→h.length≤h'.length)(keep:List Nat):∀(n:Nat) (fr:Fr) (h:LH) (x:Ex) (fr':Fr) (h':LH),jY body keep n fr h=some (x,fr',h')→h.length≤h'.length
 |0,_,_,_,_,_,he=>by cases he
 |n+1,fr,h,x,fr',h',he=>by
  simp only[jY] at he;split at he
  ·rename_i fr1 h1 h2;exact zvB (hb _ _ _ _ _ h2) (zeX hb keep n _ _ _ _ _ he)
  ·exact hb _ _ _ _ _ he
theorem zdY{call:zU}(g:YB call):∀(l:List EG) (fr:Fr) (h:LH) (fr':Fr) (h':LH),jU call l fr h=some (fr',h')→h.length≤h'.length
 |[],fr,h,fr',h',he=>by
  simp only[jU,zuI,zuL] at he;obtain⟨_,rfl⟩:=he;exact zuQ _
 |x::l,fr,h,fr',h',he=>by
  simp only[jU] at he;split at he
  ·split at he
   ·rename_i v h1 hv;exact zvB (zbJ g hv) (zdY g l _ _ _ _ he)
   ·cases he
  ·exact zdY g l _ _ _ _ he
  ·cases he
theorem zjX{at':Nat→Fr→LH→Out}(ha:∀l fr h x fr' h',at' l fr h=some (x,fr',h')→h.length≤h'.length)(has:Nat→Bool):∀(n:Nat) (x:Ex) (fr:Fr) (h:LH) (x':Ex) (fr':Fr) (h':LH),yb at' has n (some (x,fr,h))=some (x',fr',h')→h.length≤h'.length:=by
 intro n
 induction n with
 |zero=>
  intro x fr h x' fr' h' he;unfold yb at he;split at he
  ·split at he
   ·cases he
   ·rename_i e _;simp only[zuI,zuL] at e he;obtain⟨_,_,rfl⟩:=e;obtain⟨_,_,rfl⟩:=he;exact zuQ _
  ·simp only[zuI,zuL] at he;obtain⟨_,_,rfl⟩:=he;exact zuQ _
 |succ n ih=>
  intro x fr h x' fr' h' he;unfold yb at he;split at he
  ·rename_i l fr0 h0 e;simp only[zuI,zuL] at e;obtain⟨_,_,rfl⟩:=e;split at he
   ·cases hr:at' l fr0 h with
    |none=>rw[hr] at he;unfold yb at he;cases he
    |some r=>
     obtain⟨x1,fr1,h1⟩:=r;rw[hr] at he;exact zvB (ha _ _ _ _ _ _ hr) (ih _ _ _ _ _ _ he)
   ·simp only[zuI,zuL] at he;obtain⟨_,_,rfl⟩:=he;exact zuQ _
  ·simp only[zuI,zuL] at he;obtain⟨_,_,rfl⟩:=he;exact zuQ _
theorem ziV{call:zU}(g:YB call)(n:Nat):∀(c:EC),(∀(fr:Fr) (h:LH) (x:Ex) (fr':Fr) (h':LH),zp call n c fr h=some (x,fr',h')→h.length≤h'.length)∧∀(l:Nat) (fr:Fr) (h:LH) (x:Ex) (fr':Fr) (h':LH),zL call n c l fr h=some (x,fr',h')→h.length≤h'.length:=by
 intro c
 induction c with
 |skip=>refine⟨?_,fun l fr h x fr' h' he=>by simp only[zL] at he;cases he⟩;intro fr h x fr' h' he;simp only[zp,zuI,zuL] at he;obtain⟨_,_,rfl⟩:=he;exact zuQ _
 |label l'=>
  refine⟨?_,fun l fr h x fr' h' he=> ?_⟩
  ·intro fr h x fr' h' he;simp only[zp,zuI,zuL] at he;obtain⟨_,_,rfl⟩:=he;exact zuQ _
  ·simp only[zL] at he;split at he
   ·simp only[zuI,zuL] at he;obtain⟨_,_,rfl⟩:=he;exact zuQ _
   ·cases he
 |ops l keep=>
  refine⟨?_,fun l fr h x fr' h' he=>by simp only[zL] at he;cases he⟩;intro fr h x fr' h' he;simp only[zp] at he;obtain⟨⟨f1,h1⟩,h2,e⟩:=zuM.1 he;simp only[zuL] at e;obtain⟨_,_,rfl⟩:=e;exact zdY g _ _ _ _ _ h2
 |draw l ps keep=>
  refine⟨?_,fun l fr h x fr' h' he=>by simp only[zL] at he;cases he⟩;intro fr h x fr' h' he;simp only[zp] at he;obtain⟨⟨f1,h1⟩,h2,e⟩:=zuM.1 he;simp only[zuL] at e;obtain⟨_,_,rfl⟩:=e;exact zlI g h2
 |seq a b iha ihb=>
  refine⟨fun fr h x fr' h' he=> ?_,fun l fr h x fr' h' he=> ?_⟩
  ·simp only[zp] at he;split at he
   ·rename_i f1 h1 h2;exact zvB (iha.1 _ _ _ _ _ h2) (ihb.1 _ _ _ _ _ he)
   ·exact iha.1 _ _ _ _ _ he
  ·simp only[zL] at he;split at he
   ·split at he
    ·rename_i f1 h1 h2;exact zvB (iha.2 _ _ _ _ _ _ h2) (ihb.1 _ _ _ _ _ he)
    ·exact iha.2 _ _ _ _ _ _ he
   ·exact ihb.2 _ _ _ _ _ _ he
 |cond c a b iha ihb=>
  refine⟨?_,fun l fr h x fr' h' he=>by simp only[zL] at he;cases he⟩;intro fr h x fr' h' he;simp only[zp] at he;split at he
  ·split at he
   ·exact iha.1 _ _ _ _ _ he
   ·exact ihb.1 _ _ _ _ _ he
  ·cases he
 |block id b ih=>
  refine⟨?_,fun l fr h x fr' h' he=>by simp only[zL] at he;cases he⟩;intro fr h x fr' h' he;simp only[zp] at he;split at he
  ·rename_i id' f1 h1 h2;have:=ih.1 _ _ _ _ _ h2;split at he<;>(simp only[zuI,zuL] at he;obtain⟨_,_,rfl⟩:=he;exact this)
  ·exact ih.1 _ _ _ _ _ he
 |loop keep b ih=>
  refine⟨?_,fun l fr h x fr' h' he=>by simp only[zL] at he;cases he⟩;intro fr h x fr' h' he;simp only[zp] at he;exact zeX ih.1 keep n _ _ _ _ _ he
 |exit id keep=>refine⟨?_,fun l fr h x fr' h' he=>by simp only[zL] at he;cases he⟩;intro fr h x fr' h' he;simp only[zp,zuI,zuL] at he;obtain⟨_,_,rfl⟩:=he;exact zuQ _
 |ret keep=>refine⟨?_,fun l fr h x fr' h' he=>by simp only[zL] at he;cases he⟩;intro fr h x fr' h' he;simp only[zp,zuI,zuL] at he;obtain⟨_,_,rfl⟩:=he;exact zuQ _
 |goto l keep=>refine⟨?_,fun l fr h x fr' h' he=>by simp only[zL] at he;cases he⟩;intro fr h x fr' h' he;simp only[zp,zuI,zuL] at he;obtain⟨_,_,rfl⟩:=he;exact zuQ _
 |scope b ih=>
  refine⟨?_,fun l fr h x fr' h' he=>by simp only[zL] at he;cases he⟩;intro fr h x fr' h' he;simp only[zp] at he;cases hr:zp call n b fr h with
  |none=>rw[hr] at he;unfold yb at he;cases he
  |some r=>
   obtain⟨x1,fr1,h1⟩:=r;rw[hr] at he;exact zvB (ih.1 _ _ _ _ _ hr) (zjX ih.2 _ n _ _ _ _ _ _ he)
 |ext k m f=>
  refine⟨?_,fun l fr h x fr' h' he=>by simp only[zL] at he;cases he⟩;intro fr h x fr' h' he;simp only[zp,zlM] at he;split at he
  ·split at he
   ·split at he
    ·rename_i hl;simp only[zuI,zuL] at he;obtain⟨_,_,rfl⟩:=he;exact hl
    ·cases he
   ·cases he
  ·cases he
theorem zeB{call:zU}(g:YB call)(n:Nat)(c:EC)(fr:Fr)(h:LH)(x:Ex)(fr':Fr)(h':LH)(he:zp call n c fr h=some (x,fr',h')):h.length≤h'.length:=(ziV g n c).1 fr h x fr' h' he
theorem ze8{l:Option (List FV)}{h h':LH}{v:FV}(he:qQ l h=some (v,h')):h'=h:=by
 unfold qQ at he;split at he
 ·split at he
  ·simp only[zuI,zuL] at he;exact he.2.symm
  ·cases he
 ·cases he
theorem ZG(C:Nat→Option EF):∀n,YB (jc C n)
 |0=>fun f args h v h' he=>by simp only[jc] at he;cases he
 |n+1=>fun f args h v h' he=>by
  simp only[jc] at he;split at he
  ·cases he
  ·split at he
   ·split at he
    ·rename_i f1 h1 h2;rw[ze8 he];exact zeB (ZG C n) n _ _ _ _ _ _ h2
    ·rename_i f1 h1 h2;rw[ze8 he];exact zeB (ZG C n) n _ _ _ _ _ _ h2
    ·cases he
   ·cases he
end Go.Proofs.YtdmcfjkgopmlgaaGreatDoor.Ev
namespace Go.Proofs.YtdmcfjkgopmlgaaGreatDoor.Ev
open Go Go.RowKit
section
variable {P:Program} {w0:Base}
theorem ya{S:Nat→Prop}:∀{l:List SV},nmL S l↔∀v∈l,nmS S v
 |[]=>by simp[nmL]
 |v::r=>by simp[nmL,ya (l:=r)]
theorem J9{S:Nat→Prop}:∀{l:List FV},zes S l↔∀v∈l,nmV S v
 |[]=>by simp[zes]
 |v::r=>by simp[zes,J9 (l:=r)]
theorem zdP{S T:Nat→Prop}(h:∀q,S q→T q){v:SV}(hv:nmS S v):nmS T v:=by
 cases v<;>first|exact trivial|exact h _ hv
theorem zhS{S T:Nat→Prop}(h:∀q,S q→T q){l:List SV}(hv:nmL S l):nmL T l:=
 ya.2 fun v hm=>zdP h (ya.1 hv v hm)
mutual
theorem jh{S T:Nat→Prop}(h:∀q,S q→T q):∀{v:FV},nmV S v→nmV T v
 | .s v,hv=>zdP h hv
 | .agg l,hv=>zhS h hv
 | .tup l,hv=>ze2 h hv
theorem ze2{S T:Nat→Prop}(h:∀q,S q→T q):∀{l:List FV},zes S l→zes T l
 |[],_=>trivial
 |v::r,hv=>⟨jh h hv.1,ze2 h hv.2⟩
end
theorem zej{ρ:Nat→Ph}{n:Nat}{v:SV}(h:wf ρ n v):nmS (·<n) v:=by
 cases v<;>first|exact trivial|exact h|exact h.1
theorem zgX{ρ:Nat→Ph}{n:Nat}{v:FV}(h:wf1 ρ n v):nmV (·<n) v:=by
 cases v with
 |s v=>exact zej h
 |agg l=>exact ya.2 fun v hm=>zej (h v hm)
 |tup l=>exact h.elim
theorem Qs{ρ:Nat→Ph}{n:Nat}{v:FV}(h:wfV ρ n v):nmV (·<n) v:=by
 cases v with
 |s v=>exact zej h
 |agg l=>exact ya.2 fun v hm=>zej (h v hm)
 |tup l=>exact J9.2 fun v hm=>zgX (h v hm)
theorem zfv{ρ ρ':Nat→Ph}{n m:Nat}{v:SV}(h:wf ρ n v)(hm:nmS (·<m) v)(hn:nmS (fun q=>ρ' q=ρ q) v):wf ρ' m v∧c0 ρ' v=c0 ρ v:=by
 cases v<;>first
  |exact⟨trivial,rfl⟩
  |(have e:ρ' _=ρ _:=hn
    exact⟨hm,by simp only[c0];rw[e]⟩)
  |(have e:ρ' _=ρ _:=hn
    exact⟨⟨hm,by rw[e];exact h.2⟩,by simp only[c0];rw[e]⟩)
theorem zgY{ρ ρ':Nat→Ph}{n m:Nat}{v:FV}(h:wf1 ρ n v)(hm:nmV (·<m) v)(hn:nmV (fun q=>ρ' q=ρ q) v):wf1 ρ' m v∧c1 ρ' v=c1 ρ v:=by
 cases v with
 |s v=>exact zfv h hm hn
 |agg l=>
  have k:=fun v (hv:v∈l)=>zfv (h v hv) (ya.1 hm v hv) (ya.1 hn v hv);refine⟨fun v hv=>(k v hv).1,?_⟩;simp only[c1];rw[zvz fun v hv=>(k v hv).2]
 |tup l=>exact h.elim
theorem zj5{ρ ρ':Nat→Ph}{n m:Nat}{v:FV}(h:wfV ρ n v)(hm:nmV (·<m) v)(hn:nmV (fun q=>ρ' q=ρ q) v):wfV ρ' m v∧cv ρ' v=cv ρ v:=by
 cases v with
 |s v=>exact zfv h hm hn
 |agg l=>
  have k:=fun v (hv:v∈l)=>zfv (h v hv) (ya.1 hm v hv) (ya.1 hn v hv);refine⟨fun v hv=>(k v hv).1,?_⟩;simp only[cv];rw[zvz fun v hv=>(k v hv).2]
 |tup l=>
  have k:=fun v (hv:v∈l)=>zgY (h v hv) (J9.1 hm v hv) (J9.1 hn v hv);refine⟨fun v hv=>(k v hv).1,?_⟩;simp only[cv];rw[zvz fun v hv=>(k v hv).2]
def nmO(S:Nat→Prop):LO→Prop
 | .own _ vs=>nmL S vs
 | .ro _ vs=>nmL S vs
 | .clo _ a b=>(∀v∈a,nmV S v)∧∀v∈b,nmV S v
 | .ifc _ v=>nmV S v
 | .map es=>∀x∈es,nmS S x.2
 |_=>True
theorem qg{S T:Nat→Prop}(h:∀q,S q→T q){o:LO}(ho:nmO S o):nmO T o:=by
 cases o<;>first
  |exact trivial
  |exact zhS h ho
  |exact jh h ho
  |exact⟨fun v hv=>jh h (ho.1 v hv),fun v hv=>jh h (ho.2 v hv)⟩
  |exact fun x hx=>zdP h (ho x hx)
theorem Q1.nm{B n:Nat}{ρ:Nat→Ph}{p:Ph}{w:World}{o:LO}(h:Q1 P B ρ n p w o):nmO (·<n) o:=by
 cases o with
 |own t vs=>exact ya.2 fun v hv=>zej (h.2.2.2.2.2.2 v hv)
 |ro t vs=>exact ya.2 fun v hv=>zej (h.2.2.2 v hv)
 |clo f a b=>exact⟨fun v hv=>zgX (h.2.1 v hv),fun v hv=>zgX (h.2.2 v hv)⟩
 |ifc t v=>exact zgX h.2
 |map es=>exact fun x hx=>zej (J8 (ρ:=ρ) (h.2.2.2 x hx).2)
 |_=>trivial
theorem Q1.re{B n m:Nat}{ρ ρ':Nat→Ph}{p:Ph}{w w':World}{o:LO}(h:Q1 P B ρ n p w o)(hm:nmO (·<m) o)(hn:nmO (fun q=>ρ' q=ρ q) o)(hs:w.heap.size≤w'.heap.size)
 (hc:(o.holds=true∨p.blk<B)→∀j v,w.cell? ⟨p.blk,j,none⟩=some v→w'.cell? ⟨p.blk,j,none⟩=some v) (hf:o.holds=true→∀j,w'.frozen? ⟨p.blk,j,none⟩=w.frozen? ⟨p.blk,j,none⟩) (hwh:o.whole=true→w'.heap[p.blk]? =w.heap[p.blk]?):
   Q1 P B ρ' m p w' o:=by
 cases o with
 |own t vs=>
  obtain⟨h1,h2,h3,h4,h5,h6,h7⟩:=h;have k:=fun v (hv:v∈vs)=>zfv (h7 v hv) (ya.1 hm v hv) (ya.1 hn v hv);refine⟨h1,by omega,h3,fun j hj=> ?_,fun j v hv=> ?_,h6,fun v hv=>(k v hv).1⟩
  ·obtain⟨q1,q2⟩:=h4 j hj;obtain⟨u,hu⟩:=zv8.1 q1;exact⟨by rw[hc (.inl rfl) _ u hu];rfl,by rw[hf rfl];exact q2⟩
  ·rw[zvz fun v hv=>(k v hv).2] at hv;exact hc (.inl rfl) _ _ (h5 j v hv)
 |ro t vs=>
  obtain⟨h1,h2,h3,h4⟩:=h;have k:=fun v (hv:v∈vs)=>zfv (h4 v hv) (ya.1 hm v hv) (ya.1 hn v hv);refine⟨h1,h2,fun j v hv=> ?_,fun v hv=>(k v hv).1⟩;rw[zvz fun v hv=>(k v hv).2] at hv;exact hc (.inr h1) _ _ (h3 j v hv)
 |dead=>trivial
 |clo f a b=>
  obtain⟨h1,h2,h3⟩:=h;have k1:=fun v (hv:v∈a)=>zgY (h2 v hv) (hm.1 v hv) (hn.1 v hv);have k2:=fun v (hv:v∈b)=>zgY (h3 v hv) (hm.2 v hv) (hn.2 v hv);refine⟨?_,fun v hv=>(k1 v hv).1,fun v hv=>(k2 v hv).1⟩;rw[h1,zvz fun v hv=>(k1 v hv).2,zvz fun v hv=>(k2 v hv).2]
 |ifc t v=>
  obtain⟨h1,h2⟩:=h;have k:=zgY h2 hm hn;exact⟨by rw[h1,k.2],k.1⟩
 |map es=>
  obtain⟨h1,h2,⟨ms,h3,h4,h6⟩,h5⟩:=h;exact⟨h1,by omega,⟨ms,by rw[hwh rfl];exact h3,by rw[h4];exact(zog h5).symm,h6⟩,h5⟩
 |iter s p=>
  obtain⟨h1,h2,h3,h4⟩:=h;exact⟨h1,by omega,h3,by rw[hwh rfl];exact h4⟩
theorem zdQ{S:Nat→Prop}(h:∀q,S q)(v:SV):nmS S v:=by cases v<;>first|exact trivial|exact h _
theorem zhT{S:Nat→Prop}(h:∀q,S q)(l:List SV):nmL S l:=ya.2 fun v _=>zdQ h v
mutual
theorem Qa{S:Nat→Prop}(h:∀q,S q):∀(v:FV),nmV S v
 | .s v=>zdQ h v
 | .agg l=>zhT h l
 | .tup l=>ze3 h l
theorem ze3{S:Nat→Prop}(h:∀q,S q):∀(l:List FV),zes S l
 |[]=>trivial
 |v::r=>⟨Qa h v,ze3 h r⟩
end
theorem zhU{S:Nat→Prop}(h:∀q,S q)(o:LO):nmO S o:=by
 cases o<;>first
  |exact trivial
  |exact zhT h _
  |exact Qa h _
  |exact⟨fun v _=>Qa h v,fun v _=>Qa h v⟩
  |exact fun x _=>zdQ h x.2
def Fk(w0:Base)(ρ:Nat→Ph)(n:Nat)(H:LH)(k:Nat):Prop:=w0.F k∨∃i o,n≤i∧H[i]? =some o∧o.holds=true∧k=(ρ i).blk
theorem Qn{H:LH}{x i:Nat}{o:LO}(h:(H.take x)[i]? =some o):i<x∧H[i]? =some o:=by
 rw[zvo] at h;split at h
 ·rename_i hl;exact⟨hl,h⟩
 ·cases h
theorem Rel.part{ρ:Nat→Ph}{H:LH}{w:World}(r:Rel P w0 ρ H w){x n:Nat}(hx:x≤n)(hl:x≤H.length)(hn:∀i o,i<x→H[i]? =some o→nmO (·<x) o):Rel P ⟨w,w0.B,Fk w0 ρ n H,w0.dr⟩ ρ (H.take x) w:=by
 have hlen:(H.take x).length=x:=by rw[zu6];omega
 refine⟨BelD.refl _ _ _,r.size,fun k hk=>⟨?_,rfl⟩,fun i o hi hh hk=> ?_,fun i o hi=> ?_,fun i j o o' hi hj hne k1 k2=>r.inj i j o o' (Qn hi).2 (Qn hj).2 hne k1 k2⟩
 ·rcases hk with hk|⟨i,o,h1,h2,h3,rfl⟩
  ·exact zvF (r.keep k hk).1 r.below.size
  ·have:=r.obj i o h2
   cases o<;>first
    |(cases h3;done)
    |exact this.2.1
 ·obtain⟨h1,h2⟩:=Qn hi;rcases hk with hk|⟨j,o',h3,h4,h5,h6⟩
  ·exact r.out i o h2 hh hk
  ·exact r.inj i j o o' h2 h4 (by omega) hh h5 h6
 ·obtain⟨h1,h2⟩:=Qn hi;rw[hlen];exact(r.obj i o h2).re (hn i o h1 h2) (zhU (fun _=>rfl) o) (zuQ _) (fun _ _ _ hv=>hv) (fun _ _=>rfl) (fun _=>rfl)
theorem Rel.join{ρ ρ':Nat→Ph}{H h1:LH}{w w':World}(r:Rel P w0 ρ H w){n:Nat}(hl:h1.length=n)(hH:n≤H.length)(r':Rel P ⟨w,w0.B,Fk w0 ρ n H,w0.dr⟩ ρ' h1 w')
 (hn:∀i o,n≤i→H[i]? =some o→nmO (fun q=>(if q<n then ρ' q else ρ q)=ρ q) o):Rel P w0 (fun q=>if q<n then ρ' q else ρ q) (h1++H.drop n) w':=by
 have hlen:(h1++H.drop n).length=H.length:=by rw[zuR,zvY,hl];omega
 have key:∀(i:Nat) (o:LO),(h1++H.drop n)[i]? =some o→(i<n∧h1[i]? =some o)∨(n≤i∧H[i]? =some o):=by
  intro i o hi;rcases zwp i n with hlt|hge
  ·rw[zuO (by omega)] at hi;exact .inl ⟨hlt,hi⟩
  ·rw[zuP (by omega),zvR,hl,show n+(i-n)=i by omega] at hi;exact .inr ⟨hge,hi⟩
 refine⟨r.below.trans r'.below,r.hB,fun k hk=> ?_,fun i o hi hh hk=> ?_,fun i o hi=> ?_,fun i j o o' hi hj hne k1 k2=> ?_⟩
 ·obtain⟨h2,h3⟩:=r.keep k hk;exact⟨h2,(r'.keep k (.inl hk)).2.trans h3⟩
 ·rcases key i o hi with⟨hlt,hi⟩|⟨hge,hi⟩
  ·simp only[zuT hlt] at hk;exact r'.out i o hi hh (.inl hk)
  ·simp only[zuV (show¬i<n by omega)] at hk;exact r.out i o hi hh hk
 ·rw[hlen];rcases key i o hi with⟨hlt,hi⟩|⟨hge,hi⟩
  ·simp only[zuT hlt];have hob:=r'.obj i o hi;have hnm:=hob.nm;rw[hl] at hnm;exact hob.re (qg (fun q hq=>by omega) hnm) (qg (fun q hq=>zuT hq) hnm) (zuQ _) (fun _ _ _ hv=>hv) (fun _ _=>rfl) (fun _=>rfl)
  ·simp only[zuV (show¬i<n by omega)];have hob:=r.obj i o hi;have hcell:(o.holds=true∨(ρ i).blk<w0.B)→∀j v,w.cell? ⟨(ρ i).blk,j,none⟩=some v→w'.cell? ⟨(ρ i).blk,j,none⟩=some v:=by
    intro hk j v hv;rcases hk with hk|hk
    ·have:=(r'.keep (ρ i).blk (.inr ⟨i,o,hge,hi,hk,rfl⟩)).2;have e:w'.cell? ⟨(ρ i).blk,j,none⟩=w.cell? ⟨(ρ i).blk,j,none⟩:=by
      simp only[World.cell?,this]
     rw[e];exact hv
    ·have e:w'.cell? ⟨(ρ i).blk,j,none⟩=w.cell? ⟨(ρ i).blk,j,none⟩:=Below.cell (p:=⟨(ρ i).blk,j,none⟩) r'.below.toBelow hk;rw[e];exact hv
   refine hob.re hob.nm (hn i o hge hi) r'.below.size hcell (fun hk j=> ?_) (fun hk=>(r'.keep (ρ i).blk (.inr ⟨i,o,hge,hi,(by cases o<;>first|rfl|cases hk),rfl⟩)).2);have:=(r'.keep (ρ i).blk (.inr ⟨i,o,hge,hi,hk,rfl⟩)).2;simp only[World.frozen?,this]
 ·rcases key i o hi with⟨l1,a1⟩|⟨g1,a1⟩<;>rcases key j o' hj with⟨l2,a2⟩|⟨g2,a2⟩
  ·simp only[zuT l1,zuT l2];exact r'.inj i j o o' a1 a2 hne k1 k2
  ·simp only[zuT l1,zuV (show¬j<n by omega)];intro e;exact r'.out i o a1 k1 (.inr ⟨j,o',g2,a2,k2,e⟩)
  ·simp only[zuT l2,zuV (show¬i<n by omega)];intro e;exact r'.out j o' a2 k2 (.inr ⟨i,o,g1,a1,k1,e.symm⟩)
  ·simp only[zuV (show¬i<n by omega),zuV (show¬j<n by omega)];exact r.inj i j o o' a1 a2 hne k1 k2
theorem zjx{S:Nat→Prop}{v:SV}(h:nlS v=true):nmS S v:=by cases v<;>first|exact trivial|cases h
theorem zgs{S:Nat→Prop}{l:List SV}(h:l.all nlS=true):nmL S l:=ya.2 fun v hv=>zjx (zva.1 h v hv)
theorem ztQ{S:Nat→Prop}{v:FV}(h:nlV v=true):nmV S v:=by
 cases v with
 |s v=>exact zjx h
 |agg l=>exact zgs h
 |tup l=>
  cases l with
  |nil=>trivial
  |cons x r=>cases h
section
variable {S:Nat→Prop} {fr:Fr}
def FrN(S:Nat→Prop)(fr:Fr):Prop:=∀t v,yj fr t=some v→nmV S v
theorem zaS(hF:FrN S fr){x:OD}(hc:nlD x=true){v:FV}(he:odE fr x=some v):nmV S v:=by
 cases x with
 |t n=>exact hF n v he
 |c u=>obtain rfl:=zuK he;exact ztQ hc
theorem j8(hF:FrN S fr){x:OD}(hc:nlD x=true){v:SV}(he:odS fr x=some v):nmS S v:=zaS hF hc (zdS he)
theorem zjC(hF:FrN S fr):∀{l:List OD},l.all nlD=true→∀{vs:List FV},odL fr l=some vs→∀v∈vs,nmV S v
 |[],_,vs,he=>by simp only[odL,zuI] at he;subst he;simp
 |x::r,hc,vs,he=>by
  simp only[zwk,zuS] at hc;simp only[odL] at he;split at he
  ·rename_i u hu;obtain⟨ys,hy,rfl⟩:=zuM.1 he;intro v hv;rcases zu4.1 hv with rfl|hv
   ·exact zaS hF hc.1 hu
   ·exact zjC hF hc.2 hy v hv
  ·cases he
theorem zne{v:FV}{l:List SV}(hv:nmV S v)(h:jG v=some l):nmL S l:=by
 cases v with
 |s v=>simp only[jG,zuI] at h;subst h;exact⟨hv,trivial⟩
 |agg m=>simp only[jG,zuI] at h;subst h;exact hv
 |tup l=>cases h
theorem zoj(hF:FrN S fr){x:OD}(hc:nlD x=true){l:List SV}(he:(odE fr x).bind jG=some l):nmL S l:=by obtain⟨v,h1,h2⟩:=zu1.1 he;exact zne (zaS hF hc h1) h2
theorem zk8:∀{l vs:List SV} {o:Nat},nmL S vs→nmL S l→nmL S (qn vs o l)
 |[],vs,o,hv,_=>hv
 |c::r,vs,o,hv,hl=>by
  simp only[qn];refine zk8 (ya.2 fun v hm=> ?_) hl.2;rcases List.mem_or_eq_of_mem_set hm with hm|rfl
  ·exact ya.1 hv v hm
  ·exact hl.1
theorem zf4(hF:FrN S fr):∀{ps:List (Nat×Nat×OD)} {cs l:List SV},(ps.all fun p=>nlD p.2.2)=true→nmL S cs→ZJ fr cs ps=some l→nmL S l
 |[],cs,l,_,hv,he=>by simp only[ZJ,zuI] at he;subst he;exact hv
 |(o,n,x)::r,cs,l,hc,hv,he=>by
  simp only[zwk,zuS] at hc;simp only[ZJ] at he;split at he
  ·rename_i m hm;split at he
   ·split at he
    ·exact zf4 hF hc.2 (zk8 hv (zoj hF hc.1 hm)) he
    ·cases he
   ·cases he
  ·cases he
theorem zoz{n:Nat}{z:List SV}(h:nmL S z):nmL S (rep n z):=by refine ya.2 fun v hv=> ?_;obtain⟨l,h1,h2⟩:=zxG.1 hv;rw[List.eq_of_mem_replicate h1] at h2;exact ya.1 h v h2
theorem zsQ{op:BinOp}{a b v:SV}(h:zcT op a b=some v):nmS S v:=by
 cases v<;>first
  |exact trivial
  |(exfalso;revert h;cases a<;>cases b<;>simp only[zcT]<;>(try (intro h;cases h;done))<;>(try unfold zdx)<;>(try unfold zj0)<;>(try unfold zee)<;>(try unfold zb1)<;>(try unfold zbY)<;>(repeat' split)<;>intro h<;>cases h)
theorem un_nm{op:UnOp}{a v:SV}(h:unE op a=some v):nmS S v:=by
 unfold unE at h
 split at h<;>first
  |(obtain rfl:=zuK h;exact trivial)
  |cases h
theorem zsv{k:IntKind}:∀{l:List SV} {a:Int} {v:SV},zbB k a l=some v→nmS S v
 |[],a,v,h=>by simp only[zbB,zuI] at h;subst h;trivial
 |x::r,a,v,h=>by
  cases x<;>simp only[zbB] at h<;>first
   |exact zsv h
   |cases h
theorem zsw{k:IntKind}:∀{l:List SV} {a:Int} {v:SV},zbz k a l=some v→nmS S v
 |[],a,v,h=>by simp only[zbz,zuI] at h;subst h;trivial
 |x::r,a,v,h=>by
  cases x<;>simp only[zbz] at h<;>first
   |exact zsw h
   |cases h
theorem op_nm{h h':LH}{op:EO}{v:FV}(hc:yp op=false)(hn:nlE op=true)(hF:FrN S fr)(hH:∀p o,S p→h[p]? =some o→nmO S o)(he:opE fr h op=some (v,h')):nmV S v:=by
 have hcells:∀p t vs,S p→cellsOf h p=some (t,vs)→nmL S vs:=by
  intro p t vs hp hq;unfold cellsOf at hq;split at hq
  ·rename_i t' vs' ho;obtain⟨rfl,rfl⟩:=zu5 (zuK hq);exact hH p _ hp ho
  ·rename_i t' vs' ho;obtain⟨rfl,rfl⟩:=zu5 (zuK hq);exact hH p _ hp ho
  ·cases hq
 cases op<;>first
  |(cases hc;done)
  |skip
 case mov x=>
  simp only[opE] at he;obtain⟨u,hu,e⟩:=zuM.1 he;obtain⟨rfl,_⟩:=zu5 e;exact zaS hF hn hu
 case nilc x=>
  simp only[opE] at he;split at he
  ·rename_i i o hx;obtain⟨rfl,_⟩:=zu5 (zuK he);exact j8 hF hn hx
  ·cases he
 case nilf x=>
  simp only[opE] at he;split at he
  ·rename_i i hx;split at he
   ·obtain⟨rfl,_⟩:=zu5 (zuK he);exact j8 hF hn hx
   ·cases he
  ·rename_i f hx;obtain⟨rfl,_⟩:=zu5 (zuK he);trivial
  ·cases he
 case pick c a b=>
  simp only[nlE,zuS] at hn;simp only[opE] at he;split at he
  ·rename_i t x y h1 h2 h3;obtain⟨rfl,_⟩:=zu5 (zuK he);split
   ·exact zaS hF hn.1.2 h2
   ·exact zaS hF hn.2 h3
  ·cases he
 case load agg n a=>
  simp only[opE] at he;split at he
  ·rename_i i o hx;split at he
   ·rename_i t vs hcl;have hs:=hcells i t vs (j8 hF hn hx) hcl;split at he
    ·split at he
     ·obtain⟨rfl,_⟩:=zu5 (zuK he);exact ya.2 fun v hv=>ya.1 hs v (zwr (zvW hv))
     ·cases he
    ·split at he
     ·rename_i u hu;obtain⟨rfl,_⟩:=zu5 (zuK he);exact ya.1 hs u (zvy hu)
     ·cases he
   ·cases he
  ·cases he
 case build z ps=>
  simp only[nlE,zuS] at hn;simp only[opE] at he;obtain⟨l,hl,e⟩:=zuM.1 he;obtain⟨rfl,_⟩:=zu5 e;exact zf4 hF hn.2 (zgs hn.1) hl
 case bin op x y=>
  simp only[opE] at he;split at he
  ·obtain⟨l,hl,e⟩:=zuM.1 he;obtain⟨rfl,_⟩:=zu5 e;exact zsQ hl
  ·cases he
 case eqb q x y=>
  simp only[opE] at he;split at he
  ·obtain⟨rfl,_⟩:=zu5 (zuK he);trivial
  ·cases he
 case eqp q x y=>
  simp only[opE] at he;split at he
  ·obtain⟨l,hl,e⟩:=zuM.1 he;obtain⟨rfl,_⟩:=zu5 e;trivial
  ·cases he
 case eqn q x y=>
  simp only[opE] at he;split at he
  ·obtain⟨l,hl,e⟩:=zuM.1 he;obtain⟨rfl,_⟩:=zu5 e;trivial
  ·cases he
 case eqs q l x y=>
  simp only[opE] at he;split at he
  ·obtain⟨l,hl,e⟩:=zuM.1 he;obtain⟨rfl,_⟩:=zu5 e;trivial
  ·cases he
 case un op x=>
  simp only[opE] at he;split at he
  ·obtain⟨l,hl,e⟩:=zuM.1 he;obtain⟨rfl,_⟩:=zu5 e;exact un_nm hl
  ·cases he
 case sli t z x lo hi=>
  simp only[nlE,zuS] at hn;simp only[opE] at he;split at he
  ·split at he
   ·obtain⟨rfl,_⟩:=zu5 (zuK he);trivial
   ·cases he
  ·rename_i i p o n hx;have hs:S i:=j8 hF hn.1.1 hx
   (repeat' split at he)<;>first
     |(cases he;done)
     |(obtain⟨rfl,_⟩:=zu5 (zuK he);exact hs)
  ·cases he
 case mlen x=>
  simp only[opE] at he
  (repeat' split at he)<;>first
    |(cases he;done)
    |(obtain⟨rfl,_⟩:=zu5 (zuK he);trivial)
 case mget q ok z m k=>
  simp only[nlE,zuS] at hn;simp only[opE] at he;split at he
  ·rename_i i u hm hk;split at he
   ·rename_i es hi;split at he
    ·split at he
     ·rename_i r hg;obtain⟨rfl,_⟩:=zu5 (zuK he);have hs:=hH i _ (j8 (v:= .mp i) hF hn.1.2 hm) hi;have hv:nmS S (r.getD z):=by
       cases r with
       |none=>exact zjx hn.1.1
       |some v=>
        obtain⟨x,x1,rfl⟩:=zga hg;exact hs x x1
      split
      ·exact⟨hv,trivial,trivial⟩
      ·exact hv
     ·cases he
    ·cases he
   ·cases he
  ·cases he
 case sli0 x=>
  simp only[opE] at he;split at he
  ·obtain⟨rfl,_⟩:=zu5 (zuK he);trivial
  ·rename_i hx;obtain⟨rfl,_⟩:=zu5 (zuK he);exact j8 hF hn hx
  ·rename_i hx;obtain⟨rfl,_⟩:=zu5 (zuK he);exact j8 hF hn hx
  ·cases he
 case fad o x=>
  simp only[opE] at he;split at he
  ·rename_i hx;obtain⟨rfl,_⟩:=zu5 (zuK he);exact j8 hF hn hx
  ·cases he
 case fld agg o n x=>
  simp only[opE] at he;split at he
  ·rename_i l hx;have hs:nmL S l:=zaS hF hn hx;split at he
   ·split at he
    ·obtain⟨rfl,_⟩:=zu5 (zuK he);exact ya.2 fun v hv=>ya.1 hs v (zwr (zvW hv))
    ·cases he
   ·split at he
    ·rename_i u hu;obtain⟨rfl,_⟩:=zu5 (zuK he);exact ya.1 hs u (zvy hu)
    ·cases he
  ·cases he
 case iad t z x i=>
  simp only[nlE,zuS] at hn;simp only[opE] at he;split at he
  ·rename_i hx hi;have hs:=j8 hF hn.1 hx
   (repeat' split at he)<;>first
     |(cases he;done)
     |(obtain⟨rfl,_⟩:=zu5 (zuK he);exact hs)
  ·cases he
 case ext x i=>
  simp only[opE] at he;split at he
  ·rename_i l hx;have hs:zes S l:=zaS hF hn hx;split at he
   ·rename_i u hu;obtain⟨rfl,_⟩:=zu5 (zuK he);exact J9.1 hs u (zvy hu)
   ·cases he
  ·cases he
 case mn x l=>
  simp only[opE] at he;split at he
  ·obtain⟨u,hu,e⟩:=zuM.1 he;obtain⟨rfl,_⟩:=zu5 e;exact zsv hu
  ·cases he
 case mx x l=>
  simp only[opE] at he;split at he
  ·obtain⟨u,hu,e⟩:=zuM.1 he;obtain⟨rfl,_⟩:=zu5 e;exact zsw hu
  ·cases he
 all_goals
  simp only[opE] at he
  (repeat' split at he)<;>first
    |(cases he;done)
    |(obtain⟨rfl,_⟩:=zu5 (zuK he);exact trivial)
    |(obtain⟨u,hu,e⟩:=zuM.1 he
      obtain⟨rfl,_⟩:=zu5 e;exact trivial)
end
end
section
variable {P:Program} {w0:Base}
theorem zoh{fr:Fr}{h h':LH}{op:EO}{v:FV}(hl:Yu op=false)(he:opE fr h op=some (v,h')):h'=h∧∀h2,opE fr h2 op=some (v,h2):=by
 cases op<;>first
  |(cases hl;done)
  |(simp only[opE] at he⊢
    constructor
    ·(repeat' split at he)<;>simp_all [zuM]<;>grind
    ·intro h2
     (repeat' split at he)<;>simp_all [zuM]<;>grind)
theorem zhV{fr:Fr}{h h':LH}{op:EO}{v:FV}(hl:yp op=false)(he:opE fr h op=some (v,h')):h'=h:=by
 cases op<;>first
  |(cases hl;done)
  |(simp only[opE] at he
    (repeat' split at he)<;>simp_all [zuM]<;>grind)
theorem JO{op:EO}(h:yp op=false):jz op=false:=by
 cases op<;>first
  |rfl
  |cases h
theorem zl7{op:EO}(h:Yu op=false):jz op=false:=by
 cases op<;>first
  |rfl
  |cases h
theorem zir{call:zU}{fr:Fr}{h h':LH}{op:EO}{v:FV}(hl:Yu op=false)(he:zK call fr h op=some (v,h')):h'=h∧∀h2,zK call fr h2 op=some (v,h2):=by unfold zK at he⊢;rw[zl7 hl] at he⊢;exact zoh hl he
theorem Yz{call:zU}{fr:Fr}{h h':LH}{op:EO}{v:FV}(hl:yp op=false)(he:zK call fr h op=some (v,h')):h'=h:=by unfold zK at he;rw[JO hl] at he;exact zhV hl he
theorem zbX{op:EO}(h:yp op=true):Yu op=true:=by
 cases op<;>first
  |rfl
  |cases h
theorem zgx{op:EO}(h:paE op=true):jz op=false:=by
 cases op<;>first
  |rfl
  |cases h
theorem zkW{fr:Fr}{h h':LH}{op:EO}{v:FV}(hp:paE op=true)(he:opE fr h op=some (v,h')):∃(o:LO) (mk:Nat→FV),h'=h++[o]∧v=mk h.length∧(∀h2:LH,opE fr h2 op=some (mk h2.length,h2++[o]))∧
 (∀(S:Nat→Prop) (q:Nat),S q→nmV S (mk q))∧∀S:Nat→Prop,nlE op=true→FrN S fr→nmO S o:=by
 cases op<;>first
  |(cases hp;done)
  |skip
 case new t n x=>
  simp only[opE] at he⊢;split at he
  ·rename_i l hl;split at he
   ·rename_i hn;cases he;exact⟨.own t l,fun q=> .s (.ptr q 0),rfl,rfl,fun h2=>by simp[hn],fun S q hq=>hq,fun S hc hF=>zoj hF hc hl⟩
   ·cases he
  ·cases he
 case bsl t n z ps=>
  simp only[opE] at he⊢;obtain⟨l,hl,e⟩:=zuM.1 he;cases e;refine⟨.own t l,fun q=> .s (.sl q 0 0 n),rfl,rfl,fun h2=>by rw[hl];rfl,fun S q hq=>hq,fun S hc hF=> ?_⟩;simp only[nlE,zuS] at hc;exact zf4 hF hc.2 (zoz (zgs hc.1)) hl
 case mks t y z l=>
  simp only[opE] at he⊢;split at he
  ·rename_i n hl;split at he
   ·rename_i h1;split at he
    ·rename_i h2;cases he;refine⟨.own t (rep n.toNat z),fun q=> .s (.sl q 0 0 n.toNat),rfl,rfl,fun h3=>by simp[h1,h2],fun S q hq=>hq,fun S hc hF=> ?_⟩;simp only[nlE,zuS] at hc;exact zoz (zgs hc.1)
    ·cases he
   ·cases he
  ·cases he
 case mkf f a b=>
  simp only[opE] at he⊢;split at he
  ·rename_i x y hx hy;split at he
   ·rename_i h1;cases he;refine⟨.clo f x y,fun q=> .s (.cl q),rfl,rfl,fun h3=>by simp[h1],fun S q hq=>hq,fun S hc hF=> ?_⟩;simp only[nlE,zuS] at hc;exact⟨zjC hF hc.1 hx,zjC hF hc.2 hy⟩
   ·cases he
  ·cases he
 case mki t x=>
  simp only[opE] at he⊢;split at he
  ·rename_i v hv;split at he
   ·rename_i h1;cases he;exact⟨.ifc t v,fun q=> .s (.iv q),rfl,rfl,fun h3=>by simp[h1],fun S q hq=>hq,fun S hc hF=>zaS hF hc hv⟩
   ·cases he
  ·cases he
theorem Y1{h h2:LH}{i:Nat}(e:h2[i]? =h[i]?):cellsOf h2 i=cellsOf h i:=by unfold cellsOf;rw[e]
theorem zi2{h h2:LH}{t z:Nat}{v:SV}(e:∀i p o n,v= .sl i p o n→h2[i]? =h[i]?):jX h2 t z v=jX h t z v:=by
 unfold jX
 split<;>first
  |rfl
  |(rename_i i p o n hn
    rw[Y1 (e i p o n rfl)])
theorem zjE{fr:Fr}{h h' h2:LH}{op:EO}{v:FV}(hc:yp op=false)(he:opE fr h op=some (v,h'))(hs:∀p,rdO fr op=some p→h2[p]? =h[p]?):opE fr h2 op=some (v,h2):=by
 cases hl:Yu op with
 |false=>exact(zoh hl he).2 _
 |true=>
  have hh:=zhV hc he;subst hh
  cases op<;>first
   |(cases hc;done)
   |(cases hl;done)
   |skip
  case nilf x=>
   simp only[opE,rdO] at he hs⊢;cases hx:odS fr x with
   |none=>rw[hx] at he;cases he
   |some y=>
    rw[hx] at he hs
    cases y<;>first
     |(cases he;done)
     |(obtain⟨rfl,_⟩:=zu5 (zuK he);rfl)
     |(simp only at he hs⊢
       rw[hs _ rfl];split at he
       ·obtain⟨rfl,_⟩:=zu5 (zuK he);rfl
       ·cases he)
  case load agg n a=>
   simp only[opE,rdO] at he hs⊢;cases hx:odS fr a with
   |none=>rw[hx] at he;cases he
   |some y=>
    rw[hx] at he hs
    cases y<;>first
     |(cases he;done)
     |skip
    simp only at he hs⊢;rw[Y1 (hs _ rfl)]
    (repeat' split at he)<;>first
      |(cases he;done)
      |(obtain⟨rfl,_⟩:=zu5 (zuK he);simp[*])
  case b2s t1 x=>
   simp only[opE,rdO] at he hs⊢;cases hx:odS fr x with
   |none=>rw[hx] at he;cases he
   |some y=>
    rw[hx] at he hs;simp only at he⊢;have e:jX h2 t1 1 y=jX h' t1 1 y:=zi2 fun i p o n hy=>by subst hy;exact hs i rfl
    rw[e]
    (repeat' split at he)<;>first
      |(cases he;done)
      |(obtain⟨rfl,_⟩:=zu5 (zuK he);simp[*])
  case sli t1 z x lo hi=>
   simp only[opE,rdO] at he hs⊢;cases hx:odS fr x with
   |none=>rw[hx] at he;cases he
   |some y=>
    rw[hx] at he hs
    cases y<;>first
     |(cases he;done)
     |(simp only at he hs⊢
       rw[Y1 (hs _ rfl)]
       (repeat' split at he)<;>first
         |(cases he;done)
         |(obtain⟨rfl,_⟩:=zu5 (zuK he);simp[*]))
     |(simp only at he hs⊢
       (repeat' split at he)<;>first
         |(cases he;done)
         |(obtain⟨rfl,_⟩:=zu5 (zuK he);simp[*]))
  case iad t1 z x i=>
   simp only[opE,rdO] at he hs⊢;cases hx:odS fr x with
   |none=>rw[hx] at he;cases he
   |some y=>
    rw[hx] at he hs
    cases y<;>first
     |(cases he;done)
     |skip
    simp only at he hs⊢;cases hi:odS fr i with
    |none=>rw[hi] at he;cases he
    |some u=>
     rw[hi] at he
     cases u<;>first
      |(cases he;done)
      |skip
     simp only at he⊢;rw[Y1 (hs _ rfl)]
     (repeat' split at he)<;>first
       |(cases he;done)
       |(obtain⟨rfl,_⟩:=zu5 (zuK he);simp[*])
  case mlen x=>
   simp only[opE,rdO] at he hs⊢;cases hx:odS fr x with
   |none=>rw[hx] at he;cases he
   |some y=>
    rw[hx] at he hs
    cases y<;>first
     |(cases he;done)
     |skip
    simp only at he hs⊢;rw[hs _ rfl];split at he
    ·obtain⟨rfl,_⟩:=zu5 (zuK he);rfl
    ·cases he
  case mget q ok z m k=>
   simp only[opE,rdO] at he hs⊢;cases hx:odS fr m with
   |none=>rw[hx] at he;cases he
   |some y=>
    rw[hx] at he hs
    cases y<;>first
     |(cases he;done)
     |skip
    cases hu:odS fr k with
    |none=>rw[hu] at he;cases he
    |some u=>
     rw[hu] at he;simp only at he hs⊢;rw[hs _ rfl];split at he
     ·split at he
      ·rename_i hk';rw[zuT hk'];split at he
       ·rename_i r hg;obtain⟨rfl,_⟩:=zu5 (zuK he);simp only[hg]
       ·cases he
      ·cases he
     ·cases he
theorem zhn(acc:Array Nat)(j:Nat):∀(l:List Edge) (s:Nat),(l.foldl (fun s e=>if Region.binds .any e then s|||2^e.on|||acc.getD e.on 0 else s) s).testBit j=true→
 s.testBit j=true∨∃e∈l,Region.binds .any e=true∧(j=e.on∨(acc.getD e.on 0).testBit j=true)
 |[],s,h=> .inl h
 |e::l,s,h=>by
  rw[zwD] at h;rcases zhn acc j l _ h with h|⟨e',h1,h2⟩
  ·split at h
   ·rename_i hb;rw[Nat.testBit_or,Nat.testBit_or,Nat.testBit_two_pow] at h;simp only[zvT,zuZ] at h;rcases h with(h|h)|h
    ·exact .inl h
    ·exact .inr ⟨e,zv2,hb,.inl h.symm⟩
    ·exact .inr ⟨e,zv2,hb,.inr h⟩
   ·exact .inl h
  ·exact .inr ⟨e',zvO _ h1,h2⟩
def zcf(acc:Array Nat)(o:Oper):Array Nat:=acc.push (o.after.foldl (fun s e=>if Region.binds .any e then s|||2^e.on|||acc.getD e.on 0 else s) 0)
theorem zbT:∀(l:List Oper) (acc:Array Nat) (ops:List Oper),ops.length=acc.size→
 (∀(i j:Nat),(acc.getD i 0).testBit j=true→∃o e,ops[i]? =some o∧e∈o.after∧Region.binds .any e=true∧(j=e.on∨(acc.getD e.on 0).testBit j=true))→
 ∀(i j:Nat),((l.foldl zcf acc).getD i 0).testBit j=true→∃o e,(ops++l)[i]? =some o∧e∈o.after∧Region.binds .any e=true∧(j=e.on∨((l.foldl zcf acc).getD e.on 0).testBit j=true)
 |[],acc,ops,hs,ha,i,j,h=>by simpa using ha i j h
 |o::l,acc,ops,hs,ha,i,j,h=>by
  rw[zwD] at h⊢;have:=zbT l (zcf acc o) (ops++[o]) (by simp[zcf,hs]) (fun i j h=> ?_) i j h
  ·rw[zu9] at this;exact this
  ·have hget:∀k,((zcf acc o).getD k 0)=if k=acc.size then(o.after.foldl (fun s e=>if Region.binds .any e then s|||2^e.on|||acc.getD e.on 0 else s) 0) else acc.getD k 0:=by
    intro k;simp only[zcf,zvP,Array.getElem?_push];split<;>rfl
   have hmono:∀k,(acc.getD k 0).testBit j=true→((zcf acc o).getD k 0).testBit j=true:=by
    intro k hk;rw[hget];split
    ·rename_i hk';subst hk';simp at hk
    ·exact hk
   rw[hget] at h;split at h
   ·rename_i hi;rw[←zxN] at h;rcases zhn acc j _ _ h with h|⟨e,h1,h2,h3⟩
    ·simp at h
    ·refine⟨o,e,by rw[zuP (by omega)];simp[hi,hs],Array.mem_toList_iff.1 h1,h2,h3.imp id (hmono _)⟩
   ·obtain⟨o',e,h1,h2,h3,h4⟩:=ha i j h;refine⟨o',e,?_,h2,h3,h4.imp id (hmono _)⟩;rw[zuO (zuN.1 h1).1];exact h1
theorem zbU{ops:Array Oper}{i j:Nat}(h:((Region.before ops).getD i 0).testBit j=true):∃o e,ops[i]? =some o∧e∈o.after∧Region.binds .any e=true∧(j=e.on∨((Region.before ops).getD e.on 0).testBit j=true):=by
 have hb:Region.before ops=ops.toList.foldl zcf #[]:=by unfold Region.before;rw[←zxN];rfl
 rw[hb] at h⊢;obtain⟨o,e,h1,h2⟩:=zbT ops.toList #[] [] rfl (fun i j h=>by simp at h) i j h;exact⟨o,e,by simpa using h1,h2⟩
structure Tr(call:zU)(gs:List EG)(fr:Fr)(h:LH)(fr':Fr)(h':LH)(frs:Nat→Fr)(hs:Nat→LH)(val:Nat→FV)(want:Nat→Bool)(tr:List (Option TE)):Prop where
 fr0:frs 0=fr
 h0:hs 0=h
 frN:frs gs.length=fr'
 hN:hs gs.length=h'
 wantOk:∀i g,gs[i]? =some g→jo (zk (zI g) (frs i)) g.guard=some (want i)
 next:∀i g,gs[i]? =some g→frs (i+1)=qw (frs i) g.dst (some (val i))
 off:∀i g,gs[i]? =some g→want i=false→val i= .tup []∧hs (i+1)=hs i∧tr[i]? =some none
 on:∀i g,gs[i]? =some g→want i=true→zK call (zk (zI g) (frs i)) (hs i) g.op=some (val i,hs (i+1))∧tr[i]? =some (some ⟨zk (zI g) (frs i),hs i,g.op,val i,hs (i+1)⟩)
def shift{α:Type}(x:α)(f:Nat→α):Nat→α
 |0=>x
 |n+1=>f n
theorem zei{call:zU}:∀(gs:List EG) (fr:Fr) (h:LH) (tr:List (Option TE)) (fr':Fr) (h':LH),y8 call gs fr h=some (tr,fr',h')→∃frs hs val want,Tr call gs fr h fr' h' frs hs val want tr
 |[],fr,h,tr,fr',h',he=>by
  simp only[y8,zuI,zuL] at he;obtain⟨rfl,rfl,rfl⟩:=he;exact⟨fun _=>fr,fun _=>h,fun _=> .tup [],fun _=>false,⟨rfl,rfl,rfl,rfl,by simp,by simp,by simp,by simp⟩⟩
 |g::gs,fr,h,tr,fr',h',he=>by
  simp only[y8] at he;split at he
  ·rename_i hw;split at he
   ·rename_i v h1 hv;obtain⟨⟨tr1,fr1,h2⟩,h3,hq⟩:=zuM.1 he;simp only[zuL] at hq;obtain⟨rfl,rfl,rfl⟩:=hq;obtain⟨frs,hs,val,want,T⟩:=zei gs _ h1 tr1 fr1 h2 h3;refine⟨shift fr frs,shift h hs,shift v val,shift true want,⟨rfl,rfl,T.frN,T.hN,?_,?_,?_,?_⟩⟩
    ·intro i g' hi;cases i with
     |zero=>obtain rfl:=zuK hi;exact hw
     |succ i=>exact T.wantOk i g' hi
    ·intro i g' hi;cases i with
     |zero=>obtain rfl:=zuK hi;exact T.fr0
     |succ i=>exact T.next i g' hi
    ·intro i g' hi hf;cases i with
     |zero=>cases hf
     |succ i=>exact T.off i g' hi hf
    ·intro i g' hi hf;cases i with
     |zero=>
      obtain rfl:=zuK hi;have e:hs 0=h1:=T.h0;refine⟨?_,?_⟩
      ·show zK call (zk (zI g) fr) h g.op=some (v,hs 0);rw[e];exact hv
      ·show some (some (⟨zk (zI g) fr,h,g.op,v,h1⟩:TE))=some (some ⟨zk (zI g) fr,h,g.op,v,hs 0⟩);rw[e]
     |succ i=>exact T.on i g' hi hf
   ·cases he
  ·rename_i hw;obtain⟨⟨tr1,fr1,h2⟩,h3,hq⟩:=zuM.1 he;simp only[zuL] at hq;obtain⟨rfl,rfl,rfl⟩:=hq;obtain⟨frs,hs,val,want,T⟩:=zei gs _ h tr1 fr1 h2 h3;refine⟨shift fr frs,shift h hs,shift (.tup []) val,shift false want,⟨rfl,rfl,T.frN,T.hN,?_,?_,?_,?_⟩⟩
   ·intro i g' hi;cases i with
    |zero=>obtain rfl:=zuK hi;exact hw
    |succ i=>exact T.wantOk i g' hi
   ·intro i g' hi;cases i with
    |zero=>obtain rfl:=zuK hi;exact T.fr0
    |succ i=>exact T.next i g' hi
   ·intro i g' hi hf;cases i with
    |zero=>exact⟨rfl,T.h0,rfl⟩
    |succ i=>exact T.off i g' hi hf
   ·intro i g' hi hf;cases i with
    |zero=>cases hf
    |succ i=>exact T.on i g' hi hf
  ·cases he
theorem zca{call:zU}{tr:List (Option TE)}:∀{l:List (Nat×Nat)},yd call tr l→∀p∈l,j9 call tr p
 |[],_,p,hp=>by cases hp
 |q::l,h,p,hp=>by
  rcases zu4.1 hp with rfl|hp
  ·exact h.1
  ·exact zca h.2 p hp
end
section
variable {P:Program} {w0:Base}
def JI(P:Program)(G:Base→Prop):Prop:=∀(w0:Base) (ρ:Nat→Ph) (h:LH) (w:World) (F:Nat→Prop),Rel P w0 ρ h w→G w0→G ⟨w,w0.B,F,w0.dr⟩
def Bf(ops:Array Oper)(x y:Nat):Bool:=((Region.before ops).getD x 0).testBit y
theorem zl9{ops:Array Oper}{ord:List Nat}{gs:List EG}{i j:Nat}{g g':EG}(hi:gs[i]? =some g)(hj:gs[j]? =some g')(hl:Yu g.op=true)(hpa:paE g.op=false)(hc:yp g'.op=true)(hne:i≠j)
 (h1:Bf ops (ord.getD j 0) (ord.getD i 0)=false) (h2:Bf ops (ord.getD i 0) (ord.getD j 0)=false) (h3:paE g'.op=false∨j<i):(i,j)∈zaX ops ord gs:=by
 unfold zaX;refine zvr.2 ⟨i,zwq.2 (zuN.1 hi).1,?_⟩;simp only[hi,hl,hpa,Bool.not_false,zxf,if_true];refine List.mem_filterMap.2 ⟨j,zwq.2 (zuN.1 hj).1,?_⟩;unfold Bf at h1 h2;have h4:(paE g'.op&&decide (i<j))=false:=by
  rcases h3 with h|h
  ·rw[h];rfl
  ·rw[zv7 (by omega),Bool.and_false]
 simp only[hj,hc,h1,h2,h4];simp[hne]
structure DOk(P:Program)(N:Nat)(ops:Array Oper)(π:Nat→Nat)(gs:List EG):Prop where
 size:ops.size=gs.length
 lt:∀i,i<gs.length→π i<gs.length
 surj:∀x,x<gs.length→∃i,i<gs.length∧π i=x
 inj:∀i j,i<gs.length→j<gs.length→π i=π j→i=j
 after:∀i o,i<gs.length→ops[π i]? =some o→∀e∈o.after,Region.binds .any e=true→∃j,j<i∧π j=e.on
 nl:∀(i:Nat) (g:EG),gs[i]? =some g→nlE g.op=true
 slots:∀(i j d:Nat) (g g':EG),gs[i]? =some g→gs[j]? =some g'→g'.dst=some d→(i≠j→g.dst≠some d)∧(d∈zI g→i=j∨Bf ops (π i) (π j)=true∨Bf ops (π j) (π i)=true)
 get:∀i,i<gs.length→∃o g,ops[π i]? =some o∧gs[i]? =some g∧zeC P N ops o=some g
theorem zeD{N:Nat}{ops:Array Oper}:∀{l:List Oper} {gs:List EG},Zj P N ops l=some gs→l.length=gs.length∧∀(i:Nat) (o:Oper),l[i]? =some o→∃g,gs[i]? =some g∧zeC P N ops o=some g
 |[],gs,h=>by
  simp only[Zj,zuI] at h;subst h;simp
 |o::l,gs,h=>by
  simp only[Zj] at h;split at h
  ·rename_i g hg;obtain⟨gs',hgs,rfl⟩:=zuM.1 h;obtain⟨h1,h2⟩:=zeD hgs;refine⟨by simp[h1],fun i o' hi=> ?_⟩;cases i with
   |zero=>obtain rfl:=zuK hi;exact⟨g,rfl,hg⟩
   |succ i=>exact h2 i o' hi
  ·cases h
theorem zlH{N:Nat}{ops:Array Oper}{l0:List EG}(hc:Zj P N ops ops.toList=some l0){ord:List Nat}(hd:zfU ops ord (Yi ord l0)=true):DOk P N ops (fun i=>ord.getD i 0) (Yi ord l0):=by
 obtain⟨hlen,hget⟩:=zeD hc;have hsz:ops.size=l0.length:=by rw[←hlen];simp
 unfold zfU at hd;simp only[zuS] at hd;obtain⟨⟨⟨d1,d2⟩,d3⟩,d4⟩:=hd;have hol:ord.length=ops.size:=by simpa using d1
 have hgl:(Yi ord l0).length=ord.length:=by simp[Yi]
 have hlt:∀i,i<ord.length→ord.getD i 0<ops.size:=by intro i hi;rw[zwB,zuY hi];have:=zva.1 d3 _ (zvi hi);simpa using this
 have hgs:∀i,i<ord.length→(Yi ord l0)[i]? =l0[ord.getD i 0]? :=by intro i hi;have h1:=hlt i hi;rw[zwB,zuY hi] at h1;simp only[zwM] at h1;simp only[Yi,zvL,zuY hi,zvf,zwB,zwM];rw[zuY (by omega)];rfl
 have hall:=fun i (hi:i<(Yi ord l0).length)=>zva.1 d4 i (zwq.2 hi);refine⟨by omega,fun i hi=> ?_,fun x hx=> ?_,fun i j hi hj he=> ?_,fun i o hi ho e hee hb=> ?_,fun i g hg=> ?_,fun i j d g g' hi hj hdst=> ?_,fun i hi=> ?_⟩
 ·have:=hlt i (by omega);omega
 ·have:=zva.1 d2 x (zwq.2 (by omega));have hm:x∈ord:=by simpa using this
  obtain⟨i,hi⟩:=zwT.1 hm;have hil:=(zuN.1 hi).1;exact⟨i,by omega,by rw[zwB,hi];rfl⟩
 ·have:=hall i hi;rw[zuS] at this;have h2:=this.2;rw[zuY hi] at h2;simp only[zuS] at h2;have h3:=zva.1 h2.2 j (zwq.2 hj);simp only[zuS] at h3;have h4:=h3.1;apply Classical.byContradiction;intro hne;have he':ord.getD i 0=ord.getD j 0:=he;rw[zvT] at h4;rcases h4 with h4|h4
  ·exact hne (by simpa using h4)
  ·rw[he'] at h4;simp at h4
 ·have:=hall i hi;rw[zuS] at this;have h1:=this.1;have ho':ops[ord.getD i 0]? =some o:=ho;simp only[ho'] at h1;have h2:=Array.all_eq_true_iff_forall_mem.1 h1 e hee;rw[hb] at h2;have hm:e.on∈ord.take i:=by simpa using h2
  obtain⟨j,hj⟩:=zwT.1 hm;rw[zvo] at hj;split at hj
  ·rename_i hji;exact⟨j,hji,by show ord.getD j 0=e.on;rw[zwB,hj];rfl⟩
  ·cases hj
 ·have hi:=(zuN.1 hg).1;have:=hall i hi;rw[zuS] at this;have h2:=this.2;simp only[hg,zuS] at h2;exact h2.1
 ·have hil:=(zuN.1 hi).1;have hjl:=(zuN.1 hj).1;have:=hall i hil;rw[zuS] at this;have h2:=this.2;simp only[hi,zuS] at h2;have h3:=zva.1 h2.2 j (zwq.2 hjl);simp only[zuS,hj,hdst] at h3;obtain⟨_,h4,h5⟩:=h3;refine⟨fun hne hq=> ?_,fun hm=> ?_⟩
  ·simp[hne,hq] at h4
  ·simpa[hm,or_assoc,Bf] using h5
 ·have hio:ord.getD i 0<ops.size:=hlt i (by omega);obtain⟨g,hg,hcg⟩:=hget (ord.getD i 0) ops[ord.getD i 0] (by simp[hio]);exact⟨_,g,zvK hio,by rw[hgs i (by omega)];exact hg,hcg⟩
theorem zn4{fr:Fr}{keep:List Nat}{t:Nat}{v:FV}(h:yj (zk keep fr) t=some v):t∈keep:=by
 induction keep with
 |nil=>cases h
 |cons k r ih=>
  simp only[zk,zu7,yj] at h;by_cases e:t=k
  ·rw[e];exact zv2
  ·rw[zuV e] at h;exact zvO _ (ih h)
theorem filter_lt{p q:Nat→Bool}:∀(l:List Nat) (i:Nat),i∈l→(∀j,q j=true→p j=true)→p i=true→q i=false→(l.filter q).length<(l.filter p).length
 |[],i,h,_,_,_=>by cases h
 |x::l,i,h,hpq,hp,hq=>by
  have hle:∀l:List Nat,(l.filter q).length≤(l.filter p).length:=by
   intro l
   induction l with
   |nil=>exact zuQ _
   |cons y l ih=>
    simp only[zwK];cases hqy:q y with
    |true=>rw[hpq y hqy];simpa using ih
    |false=>
     cases p y
     ·simpa using ih
     ·simp only[zvg,if_false,if_true,zvA];omega
  rcases zu4.1 h with rfl|hm
  ·simp only[zwK,hp,hq,zvg,if_false,if_true,zvA];have:=hle l;omega
  ·have ih:=filter_lt l i hm hpq hp hq;simp only[zwK];cases hqx:q x with
   |true=>rw[hpq x hqx];simpa using ih
   |false=>
    cases p x
    ·simpa using ih
    ·simp only[zvg,if_false,if_true,zvA];omega
section
variable {ρ:Nat→Ph} {h:LH} {w:World} {N:Nat} {fr:Fr} {a:Act} {Q:Exit→Act→World→Prop}
theorem zcz{call:zU}{gs:List EG}{fr':Fr}{h':LH}{frs:Nat→Fr}{hs:Nat→LH}{val:Nat→FV}{want:Nat→Bool}{tr:List (Option TE)}(T:Tr call gs fr h fr' h' frs hs val want tr):∀i,i≤gs.length→∀t v,yj (frs i) t=some v→(∃j g,j<i∧gs[j]? =some g∧g.dst=some t∧v=val j)∨((∀j g,j<i→gs[j]? =some g→g.dst≠some t)∧yj fr t=some v)
 |0,_,t,v,hg=>by
  rw[T.fr0] at hg;exact .inr ⟨fun j g hj=>absurd hj (Nat.not_lt_zero _),hg⟩
 |i+1,hi,t,v,hg=>by
  have hgi:gs[i]? =some gs[i]:=zuY hi;rw[T.next i _ hgi] at hg;cases hdst:gs[i].dst with
  |none=>
   rw[hdst] at hg;rcases zcz T i (by omega) t v hg with⟨j,g,h1,h2⟩|⟨h1,h2⟩
   ·exact .inl ⟨j,g,by omega,h2⟩
   ·refine .inr ⟨fun j g hj hjg=> ?_,h2⟩;by_cases e:j=i
    ·subst e;rw[hgi] at hjg;obtain rfl:=zuK hjg;rw[hdst];simp
    ·exact h1 j g (by omega) hjg
  |some d=>
   rw[hdst] at hg;simp only[qw,yj] at hg;by_cases e:t=d
   ·rw[zuT e] at hg;exact .inl ⟨i,_,by omega,hgi,by rw[hdst,e],(zuK hg).symm⟩
   ·rw[zuV e] at hg;rcases zcz T i (by omega) t v hg with⟨j,g,h1,h2⟩|⟨h1,h2⟩
    ·exact .inl ⟨j,g,by omega,h2⟩
    ·refine .inr ⟨fun j g hj hjg=> ?_,h2⟩;by_cases e':j=i
     ·subst e';rw[hgi] at hjg;obtain rfl:=zuK hjg;rw[hdst];intro hq;exact e (zuK hq).symm
     ·exact h1 j g (by omega) hjg
def zo(L:Array Bool)(i:Nat):Prop:=L.getD i false=true
theorem q7{L:Array Bool}{i j:Nat}(hi:i<L.size):zo (L.setIfInBounds i true) j↔j=i∨zo L j:=by
 unfold zo;by_cases e:i=j
 ·subst e;simp[zvP,zw7,hi]
 ·rw[zvP,zwC e,←zvP];constructor
  ·exact .inr
  ·rintro(rfl|h)
   ·exact absurd rfl e
   ·exact h
def Kn(gs:List EG)(fr:Fr)(val:Nat→FV)(E:Nat→Prop)(t:Nat)(v:FV)(p:Nat):Prop:=
 (∃i g,E i∧gs[i]? =some g∧g.dst=some t∧v=val i∧p=i+1)∨((∀i g,E i→gs[i]? =some g→g.dst≠some t)∧yj fr t=some v∧p=0)
def jW(hs:Nat→LH)(n:Nat)(E:Nat→Prop)(m k:Nat):Prop:=m≤k∧k<n∧E k∧hs (k+1)≠hs k
def ZY(hs:Nat→LH)(n:Nat)(E:Nat→Prop)(m q:Nat):Prop:=q<(hs m).length∨∃k,jW hs n E m k∧q=(hs k).length
structure Pad(hs:Nat→LH)(n:Nat)(E:Nat→Prop)(m:Nat)(H:LH):Prop where
 len:H.length=(hs n).length
 old:∀q,q<(hs m).length→H[q]? =(hs m)[q]?
 onm:∀(q:Nat) (o:LO),(hs m)[q]? =some o→nmO (·<(hs m).length) o
 early:∀k,jW hs n E m k→H[(hs k).length]? =(hs (k+1))[(hs k).length]?
 enm:∀(k:Nat) (o:LO),jW hs n E m k→H[(hs k).length]? =some o→nmO (·<(hs k).length) o∧nmO (ZY hs n E m) o
 dead:∀q,(hs m).length≤q→q<(hs n).length→(∀k,jW hs n E m k→q≠(hs k).length)→H[q]? =some .dead
structure Inv(P:Program)(w0:Base)(N:Nat)(ops:Array Oper)(π:Nat→Nat)(gs:List EG)(fr:Fr)(hs:Nat→LH)(val:Nat→FV)(ρ0:Nat→Ph)(n0:Nat)(L:Array Bool)(a:Act)(w:World):Prop where
 size:L.size=ops.size
 closed:∀x y,zo L x→Bf ops x y=true→zo L y
 tsize:a.tmps.size=N
 defers:a.defers=[]
 heap:∃ρ m H,m≤gs.length∧(m=0∨∃k g,m=k+1∧gs[k]? =some g∧paE g.op=false∧hs (k+1)≠hs k)∧(∀k,k<m→hs (k+1)≠hs k→zo L (π k))∧
  (∀k g,m≤k→gs[k]? =some g→zo L (π k)→hs (k+1)≠hs k→paE g.op=true)∧Pad hs gs.length (fun k=>zo L (π k)) m H∧Rel P w0 ρ H w∧Ext n0 ρ0 ρ∧
  ∀t v p,Kn gs fr val (fun k=>zo L (π k)) t v p→t<N∧a.tmps.getD t undef=cv ρ v∧wfV ρ (hs (max m p)).length v∧nmV (ZY hs gs.length (fun k=>zo L (π k)) m) v∧p≤gs.length
theorem zdv{n:Nat}:∀{fr:Fr},zdu n fr→FrN (·<n) fr
 |[],_,t,v,h=>by cases h
 |(k,x)::r,hl,t,v,h=>by
  cases x with
  |none=>
   simp only[yj] at h;split at h
   ·cases h
   ·exact zdv (show zdu n r from hl) t v h
  |some u=>
   simp only[yj] at h;split at h
   ·obtain rfl:=zuK h;exact hl.1
   ·exact zdv (show zdu n r from hl.2) t v h
theorem zsy{S:Nat→Prop}{fr:Fr}{op:EO}{p:Nat}(hn:nlE op=true)(hF:FrN S fr)(h:rdO fr op=some p):S p:=by
 cases op<;>simp only[rdO] at h<;>first
  |(cases h;done)
  |(split at h
    ·rename_i hx;obtain rfl:=zuK h
     first
      |exact j8 (v:= .ptr _ _) hF hn hx
      |exact j8 (v:= .cl _) hF hn hx
      |exact j8 (v:= .sl _ _ _ _) hF hn hx
      |(simp only[nlE,zuS] at hn
        first
         |exact j8 (v:= .sl _ _ _ _) hF hn.1 hx
         |exact j8 (v:= .sl _ _ _ _) hF hn.1.1 hx
         |exact j8 (v:= .mp _) hF hn.1.2 hx)
      |exact j8 (v:= .mp _) hF hn hx
    ·cases h)
theorem rd_lt{n:Nat}{fr:Fr}{op:EO}{p:Nat}(hn:nlE op=true)(hF:FrN (·<n) fr)(h:rdO fr op=some p):p<n:=zsy (S:=fun q=>q<n) hn hF h
theorem zbq{n m:Nat}(hm:n≤m):∀{fr:Fr},zdu n fr→zdu m fr
 |[],_=>trivial
 |(k,none)::r,h=>zbq hm (fr:=r) h
 |(k,some v)::r,h=>⟨jh (fun q hq=>zvF hq hm) h.1,zbq hm (fr:=r) h.2⟩
theorem zdn(p:Nat→Prop)(h:∃k,p k):∃k,p k∧∀j,j<k→¬p j:=by
 obtain⟨k,hk⟩:=h
 induction k using Nat.strongRecOn with
 |_ k ih=>
  by_cases e:∃j,j<k∧p j
  ·obtain⟨j,j1,j2⟩:=e;exact ih j j1 j2
  ·exact⟨k,hk,fun j hj hp=>e ⟨j,hj,hp⟩⟩
end
end
section
variable {P:Program} {w0:Base}
section
variable {ρ:Nat→Ph} {h:LH} {w:World} {N:Nat} {fr:Fr} {a:Act} {Q:Exit→Act→World→Prop}
theorem zco{H t:LH}{x q:Nat}(hx:x≤H.length)(hq:q<x):(H.take x++t)[q]? =H[q]? :=by rw[zuO (by rw[zu6];omega),zvo,zuT hq]
structure Mono(hs:Nat→LH)(n:Nat)(pa:Nat→Prop):Prop where
 step:∀k,k<n→(hs k).length≤(hs (k+1)).length
 one:∀k,k<n→pa k→hs (k+1)≠hs k→∃o,hs (k+1)=hs k++[o]
theorem Mono.le{hs:Nat→LH}{n:Nat}{pa:Nat→Prop}(M:Mono hs n pa){x:Nat}:∀y,x≤y→y≤n→(hs x).length≤(hs y).length:=by
 intro y
 induction y with
 |zero=>intro h _;rw[Nat.le_zero.1 h];exact zuQ _
 |succ y ih=>
  intro h hn;by_cases e:x=y+1
  ·rw[e];exact zuQ _
  ·exact zvB (ih (by omega) (by omega)) (M.step y (by omega))
section
variable {hs:Nat→LH} {n m:Nat} {pa E:Nat→Prop} {H:LH}
theorem jW.lens(M:Mono hs n pa)(hpa:∀k,jW hs n E m k→pa k){k:Nat}(he:jW hs n E m k):(hs (k+1)).length=(hs k).length+1:=by obtain⟨o,ho⟩:=M.one k he.2.1 (hpa k he) he.2.2.2;rw[ho,zuR,zuW]
theorem Pad.take_eq(M:Mono hs n pa)(hpa:∀k,jW hs n E m k→pa k)(D:Pad hs n E m H):∀x,m≤x→x≤n→(∀k,m≤k→k<x→hs (k+1)≠hs k→E k)→H.take (hs x).length=hs x:=by
 intro x
 induction x with
 |zero=>
  intro h hn hk;obtain rfl:=Nat.le_zero.1 h;refine zv5 fun q=> ?_;rw[zvo];split
  ·rename_i hq;exact D.old q hq
  ·rename_i hq;rw[zvU (by omega)]
 |succ x ih=>
  intro h hn hk;by_cases e:m=x+1
  ·subst e;refine zv5 fun q=> ?_;rw[zvo];split
   ·rename_i hq;exact D.old q hq
   ·rename_i hq;rw[zvU (by omega)]
  ·have ih:=ih (by omega) (by omega) (fun k h1 h2 h3=>hk k h1 (by omega) h3);by_cases hc:hs (x+1)=hs x
   ·rw[hc];exact ih
   ·have he:jW hs n E m x:=⟨by omega,by omega,hk x (by omega) (by omega) hc,hc⟩
    obtain⟨o,ho⟩:=M.one x (by omega) (hpa x he) hc;have hl:(hs (x+1)).length=(hs x).length+1:=by rw[ho,zuR,zuW]
    rw[hl,zxh,ih,D.early x he,ho];simp
theorem Pad.allLive(M:Mono hs n pa)(hpa:∀k,jW hs n E m k→pa k):∀x,m≤x→x≤n→(∀k,m≤k→k<x→hs (k+1)≠hs k→E k)→∀q,q<(hs x).length→ZY hs n E m q:=by
 intro x
 induction x with
 |zero=>intro h hn hk q hq;obtain rfl:=Nat.le_zero.1 h;exact .inl hq
 |succ x ih=>
  intro h hn hk q hq;by_cases e:m=x+1
  ·subst e;exact .inl hq
  ·have ih:=ih (by omega) (by omega) (fun k h1 h2 h3=>hk k h1 (by omega) h3);by_cases hc:hs (x+1)=hs x
   ·rw[hc] at hq;exact ih q hq
   ·have he:jW hs n E m x:=⟨by omega,by omega,hk x (by omega) (by omega) hc,hc⟩
    have:=he.lens M hpa;by_cases hx:q=(hs x).length
    ·exact .inr ⟨x,he,hx⟩
    ·exact ih q (by omega)
theorem Pad.nmTo(M:Mono hs n pa)(D:Pad hs n E m H){x:Nat}(hm:m≤x)(hx:x≤n):∀(q:Nat) (o:LO),q<(hs x).length→H[q]? =some o→nmO (·<(hs x).length) o:=by
 intro q o hq ho;have hml:=M.le x hm hx;by_cases h1:q<(hs m).length
 ·rw[D.old q h1] at ho;exact qg (fun p hp=>by omega) (D.onm q o ho)
 ·by_cases h2:∃k,jW hs n E m k∧q=(hs k).length
  ·obtain⟨k,hk,rfl⟩:=h2;exact qg (fun p hp=>by omega) (D.enm k o hk ho).1
  ·have:=M.le n hx (zuQ _);rw[D.dead q (by omega) (by omega) (fun k hk he=>h2 ⟨k,hk,he⟩)] at ho;obtain rfl:=zuK ho;trivial
theorem Pad.nmLive(D:Pad hs n E m H):∀(q:Nat) (o:LO),ZY hs n E m q→H[q]? =some o→nmO (ZY hs n E m) o:=by
 intro q o hq ho;rcases hq with h1|⟨k,hk,rfl⟩
 ·rw[D.old q h1] at ho;exact qg (fun p hp=> .inl hp) (D.onm q o ho)
 ·exact(D.enm k o hk ho).2
theorem Pad.nmAll(D:Pad hs n E m H):∀(q:Nat) (o:LO),H[q]? =some o→nmO (ZY hs n E m) o:=by
 intro q o ho;by_cases hq:ZY hs n E m q
 ·exact D.nmLive q o hq ho
 ·have hl:=(zuN.1 ho).1;rw[D.len] at hl;have hml:¬q<(hs m).length:=fun h=>hq (.inl h);rw[D.dead q (by omega) hl (fun k hk he=>hq (.inr ⟨k,hk,he⟩))] at ho;obtain rfl:=zuK ho;trivial
end
theorem znp{G:Base→Prop}(hG:JI P G)(hgd:G w0){call:zU}(hcall:∀w0,G w0→ZE P w0 call)(hgrow:YB call){ops:Array Oper}{ord:List Nat}{gs:List EG}(hd:DOk P N ops (fun i=>ord.getD i 0) gs){fr':Fr}{h':LH}{frs:Nat→Fr}{hs:Nat→LH}{val:Nat→FV}{want:Nat→Bool}{tr:List (Option TE)}
 (T:Tr call gs fr h fr' h' frs hs val want tr) (hp:yd call tr (zaX ops ord gs)) {n0:Nat} {ρ0:Nat→Ph} (hn0:n0=h.length)
 (hQ:∀ρ' a' w',Rel P w0 ρ' h' w'→FrR ρ' h'.length N fr' a'→Ext n0 ρ0 ρ'→n0≤h'.length→Q .normal a' w'):
 ∀(fuel:Nat) (L:Array Bool) (a:Act) (w:World),Inv P w0 N ops (fun i=>ord.getD i 0) gs fr hs val ρ0 n0 L a w→((List.range gs.length).filter fun i=> !L.getD i false).length≤fuel→wpAny P .any ops Q fuel L a w:=by
 --the machine's run
 have hstepk:∀k,k<gs.length→hs (k+1)≠hs k→∃gk,gs[k]? =some gk∧want k=true∧yp gk.op=true∧zK call (zk (zI gk) (frs k)) (hs k) gk.op=some (val k,hs (k+1))∧tr[k]? =some (some ⟨zk (zI gk) (frs k),hs k,gk.op,val k,hs (k+1)⟩):=by
  intro k hk hne;have hgk:gs[k]? =some gs[k]:=zuY hk;cases hwk:want k with
  |false=>exact absurd (T.off k _ hgk hwk).2.1 hne
  |true=>
   obtain⟨s1,s2⟩:=T.on k _ hgk hwk;refine⟨_,hgk,rfl,?_,s1,s2⟩;cases hch:yp gs[k].op with
   |true=>rfl
   |false=>exact absurd (Yz hch s1) hne
 have M:Mono hs gs.length (fun k=>∃g,gs[k]? =some g∧paE g.op=true):=by
  refine⟨fun k hk=> ?_,fun k hk hpk hne=> ?_⟩
  ·by_cases hne:hs (k+1)=hs k
   ·rw[hne];exact zuQ _
   ·obtain⟨gk,_,_,_,h4,_⟩:=hstepk k hk hne;exact zbJ hgrow h4
  ·obtain⟨gk,h1,_,_,h4,_⟩:=hstepk k hk hne;obtain⟨g,h5,h6⟩:=hpk;rw[h1] at h5;obtain rfl:=zuK h5;unfold zK at h4;rw[zgx h6] at h4;obtain⟨o,mk,e,_⟩:=zkW h6 h4;exact⟨o,e⟩
 have hL0:n0=(hs 0).length:=by rw[T.h0];exact hn0
 --what comes ahead is smaller
 have hlt:∀i,i<gs.length→∀j,j<gs.length→Bf ops (ord.getD i 0) (ord.getD j 0)=true→j<i:=by
  intro i
  induction i using Nat.strongRecOn with
  |_ i ih=>
   intro hi j hj hb;obtain⟨o,e,h1,h2,h3,h4⟩:=zbU hb;obtain⟨j',q1,q2⟩:=hd.after i o hi h1 e h2 h3;rcases h4 with h4|h4
   ·have:=hd.inj j j' hj (by omega) (h4.trans q2.symm);omega
   ·have:=ih j' q1 (by omega) j hj (by show Bf ops (ord.getD j' 0) _=true;rw[show ord.getD j' 0=e.on from q2];exact h4);omega
 have hready:∀{L:Array Bool} {a:Act} {w:World} {x:Nat},Inv P w0 N ops (fun i=>ord.getD i 0) gs fr hs val ρ0 n0 L a w→x∈Region.ready .any ops L→x<gs.length∧¬zo L x∧∀y,Bf ops x y=true→zo L y:=by
  intro L a w x I hx;obtain⟨h1,o,ho,h2⟩:=mem_ready.1 hx;have hxl:x<ops.size:=(zwf.1 ho).1;refine⟨by rw[←hd.size];exact hxl,?_,?_⟩
  ·unfold zo;have:x<L.size:=by rw[I.size];exact hxl
   rw[zvP,zvK this] at h1⊢;simp only[zwM] at h1⊢;rw[h1];decide
  ·intro y hb;obtain⟨o',e,h3,h4,h5,h6⟩:=zbU hb;rw[ho] at h3;obtain rfl:=zuK h3;have hl:=h2 e h4 h5;rcases h6 with rfl|h6
   ·exact hl
   ·exact I.closed e.on y hl h6
 have hall:∀{L:Array Bool} {a:Act} {w:World},Inv P w0 N ops (fun i=>ord.getD i 0) gs fr hs val ρ0 n0 L a w→Region.ready .any ops L=[]→∀i,i<gs.length→zo L (ord.getD i 0):=by
  intro L a w I hr i
  induction i using Nat.strongRecOn with
  |_ i ih=>
   intro hi;by_cases hl:zo L (ord.getD i 0)
   ·exact hl
   ·exfalso;obtain⟨o,g,ho,hg,hcg⟩:=hd.get i hi;have hio:ord.getD i 0<ops.size:=(zwf.1 ho).1;have:ord.getD i 0∈Region.ready .any ops L:=by
     refine mem_ready.2 ⟨?_,o,ho,fun e he hb=> ?_⟩
     ·have:ord.getD i 0<L.size:=by rw[I.size];exact hio
      unfold zo at hl;rw[zvP,zvK this] at hl⊢;simp only[zwM] at hl⊢;cases hq:L[ord.getD i 0]
      ·rfl
      ·rw[hq] at hl;exact absurd rfl hl
     ·obtain⟨j,q1,q2⟩:=hd.after i o hi ho e he hb;have:=ih j q1 (by omega);rw[show ord.getD j 0=e.on from q2] at this;exact this
    rw[hr] at this;cases this
 have hfin:∀{L:Array Bool} {a:Act} {w:World},Inv P w0 N ops (fun i=>ord.getD i 0) gs fr hs val ρ0 n0 L a w→(∀i,i<gs.length→zo L (ord.getD i 0))→Q .normal a w:=by
  intro L a w I hl;obtain⟨ρ,m,H,hm,hcan,h1,h2,D,R,hE,hK⟩:=I.heap;have hpa:∀k,jW hs gs.length (fun k=>zo L (ord.getD k 0)) m k→∃g,gs[k]? =some g∧paE g.op=true:=by intro k hk;have hkl:k<gs.length:=hk.2.1;have hgk:gs[k]? =some gs[k]:=zuY hkl;exact⟨_,hgk,h2 k _ hk.1 hgk hk.2.2.1 hk.2.2.2⟩
  have hHN:=D.take_eq M hpa gs.length hm (zuQ _) (fun k _ hk _=>hl k hk);rw[zvG (by rw[D.len];exact zuQ _),T.hN] at hHN;subst hHN;refine hQ ρ a w R ⟨I.tsize,I.defers,fun t v hv=> ?_⟩ hE (by rw[hL0];have:=M.le gs.length (zws _) (zuQ _);rw[T.hN] at this;exact this);rw[←T.frN] at hv;have hkn:∃p,Kn gs fr val (fun k=>zo L (ord.getD k 0)) t v p:=by
   rcases zcz T gs.length (zuQ _) t v hv with⟨j,g,q1,q2,q3,q4⟩|⟨q1,q2⟩
   ·exact⟨_,.inl ⟨j,g,hl j q1,q2,q3,q4,rfl⟩⟩
   ·exact⟨_,.inr ⟨fun j g hj hg=>q1 j g (zuN.1 hg).1 hg,q2,rfl⟩⟩
  obtain⟨p,hkn⟩:=hkn;obtain⟨r1,r2,r3,_,r5⟩:=hK t v p hkn;refine⟨r1,r2,zbb (Ext.refl _ _) ?_ r3⟩;have:=M.le gs.length (x:=max m p) (by omega) (zuQ _);rw[T.hN] at this;exact this
 intro fuel
 induction fuel with
 |zero=>
  intro L a w I hf;have hl:∀i,i<gs.length→zo L (ord.getD i 0):=by
   intro i hi;apply Classical.byContradiction;intro hne;have:ord.getD i 0∈(List.range gs.length).filter fun i=> !L.getD i false:=by refine zvQ.2 ⟨zwq.2 (hd.lt i hi),?_⟩;unfold zo at hne;simpa using hne
   have:=List.length_pos_of_mem this;omega
  refine⟨?_,hfin I hl⟩;cases hr:Region.ready .any ops L with
  |nil=>rfl
  |cons i r=>
   obtain⟨q1,q2,_⟩:=hready I (by rw[hr];exact zv2);obtain⟨k,k1,k2⟩:=hd.surj i q1;exact absurd (by rw[←k2];exact hl k k1) q2
 |succ fuel ih=>
  intro L a w I hf;refine⟨fun hr=>hfin I (hall I hr),fun x hx=> ?_⟩;obtain⟨hxl,hnx,hbx⟩:=hready I hx;obtain⟨i,hil,hix⟩:=hd.surj x hxl;have hix:ord.getD i 0=x:=hix;subst hix;have hnl:¬zo L (ord.getD i 0):=hnx;have hbef:∀j,Bf ops (ord.getD i 0) (ord.getD j 0)=true→zo L (ord.getD j 0):=fun j hb=>hbx _ hb;have hLi:ord.getD i 0<L.size:=by rw[I.size,hd.size];exact hxl
  obtain⟨o,g,hopi,hg,hcg⟩:=hd.get i hil;have hopi:ops[ord.getD i 0]? =some o:=hopi;obtain⟨d1,d2,⟨d3,d3'⟩,d4⟩:=zaw hcg;obtain⟨ρ,m,H,hm,hcan,h1,h2,D,R,hE,hK⟩:=I.heap
  --names
  have hpa:∀k,jW hs gs.length (fun k=>zo L (ord.getD k 0)) m k→∃g,gs[k]? =some g∧paE g.op=true:=by intro k hk;have hkl:k<gs.length:=hk.2.1;have hgk:gs[k]? =some gs[k]:=zuY hkl;exact⟨_,hgk,h2 k _ hk.1 hgk hk.2.2.1 hk.2.2.2⟩
  have hls:∀{k:Nat},k<gs.length→(zo (L.setIfInBounds (ord.getD i 0) true) (ord.getD k 0)↔k=i∨zo L (ord.getD k 0)):=by
   intro k hk;rw[q7 hLi];constructor
   ·rintro(h|h)
    ·exact .inl (hd.inj k i hk hil h)
    ·exact .inr h
   ·rintro(rfl|h)
    ·exact .inl rfl
    ·exact .inr h
  have hclosed':∀x y,zo (L.setIfInBounds (ord.getD i 0) true) x→Bf ops x y=true→zo (L.setIfInBounds (ord.getD i 0) true) y:=by
   intro x y hx hb;rcases(q7 hLi).1 hx with rfl|hx
   ·exact(q7 hLi).2 (.inr (hbx y hb))
   ·exact(q7 hLi).2 (.inr (I.closed x y hx hb))
  have hfuel':((List.range gs.length).filter fun j=> !(L.setIfInBounds (ord.getD i 0) true).getD j false).length≤fuel:=by
   have:=filter_lt (p:=fun j=> !L.getD j false) (q:=fun j=> !(L.setIfInBounds (ord.getD i 0) true).getD j false) (List.range gs.length) (ord.getD i 0) (zwq.2 hxl) (fun j hq=> ?_) ?_ ?_
   ·omega
   ·have h0:¬zo (L.setIfInBounds (ord.getD i 0) true) j:=by unfold zo;simpa using hq
    have h1':¬zo L j:=fun hh=>h0 ((q7 hLi).2 (.inr hh));unfold zo at h1';simpa using h1'
   ·unfold zo at hnl;simpa using hnl
   ·have:zo (L.setIfInBounds (ord.getD i 0) true) (ord.getD i 0):=(q7 hLi).2 (.inl rfl);unfold zo at this;simpa using this
  --the frame of the slots that it looks at
  have hFk:∀t v,yj (zk (zI g) (frs i)) t=some v→∃p,p≤i∧Kn gs fr val (fun k=>zo L (ord.getD k 0)) t v p:=by
   intro t v hv;have htm:=zn4 hv;have hv':=zeK hv;rcases zcz T i (by omega) t v hv' with⟨j,g',q1,q2,q3,q4⟩|⟨q1,q2⟩
   ·refine⟨j+1,q1,.inl ⟨j,g',?_,q2,q3,q4,rfl⟩⟩;have hjl:=(zuN.1 q2).1;rcases(hd.slots i j t g g' hg q2 q3).2 htm with r|r|r
    ·omega
    ·exact hbef j r
    ·have:=hlt j hjl i hil r;omega
   ·refine⟨0,zws _,.inr ⟨fun j g' hj hjg hdst=> ?_,q2,rfl⟩⟩;have hjl:=(zuN.1 hjg).1;rcases(hd.slots i j t g g' hg hjg hdst).2 htm with r|r|r
    ·subst r;exact hnl hj
    ·exact q1 j g' (hlt i hil j hjl r) hjg hdst
    ·exact hnl (I.closed _ _ hj r)
  have hF:FrR ρ (hs (max m i)).length N (zk (zI g) (frs i)) a:=by refine⟨I.tsize,I.defers,fun t v hv=> ?_⟩;obtain⟨p,hp,hkn⟩:=hFk t v hv;obtain⟨r1,r2,r3,_,r5⟩:=hK t v p hkn;exact⟨r1,r2,zbb (Ext.refl _ _) (M.le (max m i) (x:=max m p) (by omega) (by omega)) r3⟩
  have hFlive:FrN (ZY hs gs.length (fun k=>zo L (ord.getD k 0)) m) (zk (zI g) (frs i)):=by intro t v hv;obtain⟨p,hp,hkn⟩:=hFk t v hv;exact(hK t v p hkn).2.2.2.1
  have hFlt:∀n',zdu n' (zk (zI g) (frs i))→FrR ρ n' N (zk (zI g) (frs i)) a:=by intro n' hlt';refine⟨I.tsize,I.defers,fun t v hv=> ?_⟩;obtain⟨r1,r2,r3⟩:=hF.get t v hv;exact⟨r1,r2,(zj5 r3 (zdv hlt' t v hv) (Qa (fun _=>rfl) v)).1⟩
  --what is known when it is done
  have hknown:∀t v p,Kn gs fr val (fun k=>zo (L.setIfInBounds (ord.getD i 0) true) (ord.getD k 0)) t v p→(g.dst=some t∧v=val i∧p=i+1)∨(g.dst≠some t∧Kn gs fr val (fun k=>zo L (ord.getD k 0)) t v p):=by
   intro t v p hk;rcases hk with⟨j,g',q1,q2,q3,q4,q5⟩|⟨q1,q2,q3⟩
   ·have hjl:=(zuN.1 q2).1;rcases(hls hjl).1 q1 with rfl|q1
    ·rw[hg] at q2;obtain rfl:=zuK q2;exact .inl ⟨q3,q4,q5⟩
    ·have hne:i≠j:=fun e=>hnl (e▸q1);exact .inr ⟨(hd.slots i j t g g' hg q2 q3).1 hne,.inl ⟨j,g',q1,q2,q3,q4,q5⟩⟩
   ·refine .inr ⟨q1 i g ((hls hil).2 (.inl rfl)) hg,.inr ⟨fun j g' hj hjg=>q1 j g' ((hls (zuN.1 hjg).1).2 (.inr hj)) hjg,q2,q3⟩⟩
  have hsz:∀(x:Value),(a.put o.dst x).tmps.size=N∧(a.put o.dst x).defers=[]:=by
   intro x;cases o.dst with
   |none=>exact⟨I.tsize,I.defers⟩
   |some d=>exact⟨by simp[Act.put,I.tsize],I.defers⟩
  have hsize':(L.setIfInBounds (ord.getD i 0) true).size=ops.size:=by rw[Array.size_setIfInBounds,I.size]
  --the values,in a later placing
  have hput:∀(ρ':Nat→Ph) (m':Nat) (S:Nat→Prop),m≤m'→m'≤gs.length→(∀q,ZY hs gs.length (fun k=>zo L (ord.getD k 0)) m q→ρ' q=ρ q∧S q)→wfV ρ' (hs (max m' (i+1))).length (val i)→nmV S (val i)→
   ∀t v p,Kn gs fr val (fun k=>zo (L.setIfInBounds (ord.getD i 0) true) (ord.getD k 0)) t v p→t<N∧(a.put o.dst (cv ρ' (val i))).tmps.getD t undef=cv ρ' v∧wfV ρ' (hs (max m' p)).length v∧nmV S v∧p≤gs.length:=by
   intro ρ' m' S hmm hmn hS hwx hnx t v p hkn;rcases hknown t v p hkn with⟨q1,rfl,rfl⟩|⟨q1,q2⟩
   ·rw[d2] at q1;have htN:=d1 t q1;rw[q1];exact⟨htN,QU (by rw[I.tsize];exact htN),hwx,hnx,hil⟩
   ·obtain⟨r1,r2,r3,r4,r5⟩:=hK t v p q2;obtain⟨s1,s2⟩:=zj5 (m:=(hs (max m' p)).length) r3 (jh (fun q hq=>zvF hq (M.le (max m' p) (x:=max m p) (by omega) (by omega))) (Qs r3)) (jh (fun q hq=>(hS q hq).1) r4);refine⟨r1,?_,s1,jh (fun q hq=>(hS q hq).2) r4,r5⟩;rw[s2];cases hdd:g.dst with
    |none=>rw[←d2,hdd];exact r2
    |some d=>
     rw[hdd] at q1;rw[←d2,hdd];exact(Zm (fun e=>q1 (by rw[e]))).trans r2
  --a heap that stays as it is
  have hLive0:hs (i+1)=hs i→∀q,ZY hs gs.length (fun k=>zo (L.setIfInBounds (ord.getD i 0) true) (ord.getD k 0)) m q↔ZY hs gs.length (fun k=>zo L (ord.getD k 0)) m q:=by
   intro heff q;constructor
   ·rintro(h|⟨k,⟨k1,k2,k3,k4⟩,k5⟩)
    ·exact .inl h
    ·rcases(hls k2).1 k3 with rfl|k3
     ·exact absurd heff k4
     ·exact .inr ⟨k,⟨k1,k2,k3,k4⟩,k5⟩
   ·rintro(h|⟨k,⟨k1,k2,k3,k4⟩,k5⟩)
    ·exact .inl h
    ·exact .inr ⟨k,⟨k1,k2,(hls k2).2 (.inr k3),k4⟩,k5⟩
  have hstay:∀(ρ':Nat→Ph) (w':World),hs (i+1)=hs i→Rel P w0 ρ' H w'→(∀q,ZY hs gs.length (fun k=>zo L (ord.getD k 0)) m q→ρ' q=ρ q)→Ext n0 ρ ρ'→wfV ρ' (hs (max m (i+1))).length (val i)→
   nmV (ZY hs gs.length (fun k=>zo L (ord.getD k 0)) m) (val i)→wpAny P .any ops Q fuel (L.setIfInBounds (ord.getD i 0) true) (a.put o.dst (cv ρ' (val i))) w':=by
   intro ρ' w' heff R' hag hE' hwf hnm;have hL0:=hLive0 heff;have hEa:∀k,jW hs gs.length (fun k=>zo (L.setIfInBounds (ord.getD i 0) true) (ord.getD k 0)) m k↔jW hs gs.length (fun k=>zo L (ord.getD k 0)) m k:=by
    intro k;constructor
    ·rintro⟨k1,k2,k3,k4⟩;rcases(hls k2).1 k3 with rfl|k3
     ·exact absurd heff k4
     ·exact⟨k1,k2,k3,k4⟩
    ·rintro⟨k1,k2,k3,k4⟩;exact⟨k1,k2,(hls k2).2 (.inr k3),k4⟩
   refine ih _ _ _ ⟨hsize',hclosed',(hsz _).1,(hsz _).2,ρ',m,H,hm,hcan,fun k hk hne=>(hls (by omega)).2 (.inr (h1 k hk hne)),fun k gk hk hgk hlk hne=> ?_,?_,R',fun q hq=>(hE' q hq).trans (hE q hq),?_⟩ hfuel'
   ·rcases(hls (zuN.1 hgk).1).1 hlk with rfl|hlk
    ·exact absurd heff hne
    ·exact h2 k gk hk hgk hlk hne
   ·refine⟨D.len,D.old,D.onm,fun k hk=>D.early k ((hEa k).1 hk),fun k o hk ho=> ?_,fun q q1 q2 q3=>D.dead q q1 q2 fun k hk=>q3 k ((hEa k).2 hk)⟩;obtain⟨e1,e2⟩:=D.enm k o ((hEa k).1 hk) ho;exact⟨e1,qg (fun q hq=>(hL0 q).2 hq) e2⟩
   ·exact hput ρ' m _ (zuQ _) hm (fun q hq=>⟨hag q hq,(hL0 q).2 hq⟩) hwf (jh (fun q hq=>(hL0 q).2 hq) hnm)
  --one step of it,on the first objects
  have hrun:∀(x y:Nat) (g1:LH),m≤x→x≤y→y≤gs.length→(∀q,ZY hs gs.length (fun k=>zo L (ord.getD k 0)) m q→q<(hs x).length∨(hs y).length≤q)→g1.length=(hs y).length→
        zK call (zk (zI g) (frs i)) (H.take (hs x).length) g.op=some (val i,g1)→FrR ρ (hs x).length N (zk (zI g) (frs i)) a→
   ∀(K:Act→World→Prop),(∀ρ' w',(∀(q:Nat) (o:LO),g1[q]? =some o→nmO (·<(hs y).length) o)→Rel P w0 ρ' (g1++H.drop (hs y).length) w'→(∀q,ZY hs gs.length (fun k=>zo L (ord.getD k 0)) m q→ρ' q=ρ q)→Ext (hs x).length ρ ρ'→wfV ρ' (hs y).length (val i)→K (a.put o.dst (cv ρ' (val i))) w')→o.wp P a w K Q:=by
   intro x y g1 hmx hxy hyn hdis hgl hst hFx K hKK;have hxl:=M.le y hxy hyn;have hyl:=M.le gs.length hyn (zuQ _);have hHl:=D.len;have hlen:(H.take (hs x).length).length=(hs x).length:=by rw[zu6];omega
   have Rp:=R.part (x:=(hs x).length) (n:=(hs y).length) hxl (by omega) (D.nmTo M hmx (by omega));refine zgO (hcall _ (hG _ _ _ _ _ R hgd)) Rp (by rw[hlen];exact hFx) d3 d3' hst fun ρ1 w1 q1 q2 q3 q4=> ?_;rw[hlen] at q2;rw[hgl] at q4;have hag:∀q,ZY hs gs.length (fun k=>zo L (ord.getD k 0)) m q→(if q<(hs y).length then ρ1 q else ρ q)=ρ q:=by
    intro q hq;split
    ·rcases hdis q hq with h|h
     ·exact q2 q h
     ·omega
    ·rfl
   have Rj:=R.join hgl (by omega) q1 (fun q o hq ho=>qg hag (D.nmAll q o ho));have e4:=zj5 (ρ':=fun q=>if q<(hs y).length then ρ1 q else ρ q) q4 (Qs q4) (jh (fun q hq=>zuT hq) (Qs q4));rw[←e4.2];refine hKK _ w1 (fun q o ho=>by have:=(q1.obj q o ho).nm;rw[hgl] at this;exact this) Rj hag (fun q hq=> ?_) e4.1;show(if q<(hs y).length then ρ1 q else ρ q)=ρ q;rw[zuT (by omega)];exact q2 q hq
  unfold Go.wpOp;rw[hopi];simp only;have hFw:FrR ρ (hs (max m i)).length N (zk (zI g) (frs i)) a:=hF;rw[zba hFw hcg (T.wantOk i g hg)];cases hwi:want i with
  |false=>
   simp only[zvg,if_false];obtain⟨t1,t2,t3⟩:=T.off i g hg hwi;have:=hstay ρ w t2 R (fun _ _=>rfl) (fun _ _=>rfl) (by rw[t1];intro v hv;cases hv) (by rw[t1];trivial);rw[t1] at this;exact this
  |true=>
   simp only[if_true];obtain⟨t1,t2⟩:=T.on i g hg hwi
   have hpair:∀k,k<gs.length→hs (k+1)≠hs k→k≠i→Yu g.op=true→paE g.op=false→(k<i∨∃gk,gs[k]? =some gk∧paE gk.op=false)→Bf ops (ord.getD k 0) (ord.getD i 0)=false→Bf ops (ord.getD i 0) (ord.getD k 0)=false→
    (zK call (zk (zI g) (frs i)) (hs k) g.op=some (val i,hs k)∧zK call (zk (zI g) (frs i)) (hs (k+1)) g.op=some (val i,hs (k+1))∧(yp g.op=true→hs (i+1)=hs i∧zdu (hs k).length (zk (zI g) (frs i))))∨(yp g.op=false∧zic (hs (k+1)).length (zk (zI g) (frs i)) g.op):=by
    intro k hk hne hki hl hpi hk3 hb1 hb2;obtain⟨gk,hgk,hwk,hch,_,htk⟩:=hstepk k hk hne;have h3:paE gk.op=false∨k<i:=by
     rcases hk3 with h|⟨g',h,h'⟩
     ·exact .inr h
     ·rw[hgk] at h;obtain rfl:=zuK h;exact .inl h'
    have:=zca hp _ (zl9 hg hgk hl hpi hch (Ne.symm hki) hb1 hb2 h3);unfold j9 at this;simp only[t2,htk] at this;rcases this with h|h
    ·exact absurd h hne
    ·exact h
   have hnotB:∀{x y:Nat},¬(Bf ops x y=true)→Bf ops x y=false:=fun h=>by simpa using h
   cases hpi:paE g.op with
   |true=>
    --one object of its own,maybe ahead of its turn
    have hst:=t1;unfold zK at hst;rw[zgx hpi] at hst;obtain⟨ob,mk,e1,e2,e3,e4,e5⟩:=zkW hpi hst;have hne:hs (i+1)≠hs i:=by rw[e1];intro h;have:=congrArg List.length h;rw[zuR,zuW] at this;omega
    have hmi:m≤i:=by apply Classical.byContradiction;intro hq;exact hnl (h1 i (by omega) hne)
    have hmax:max m i=i:=by omega
    rw[hmax] at hF;have hli:(hs (i+1)).length=(hs i).length+1:=by rw[e1,zuR,zuW]
    have hiN:=M.le gs.length (x:=i+1) hil (zuQ _);have hmil:=M.le i hmi (by omega);have hHl:=D.len;have htl:(H.take (hs i).length).length=(hs i).length:=by rw[zu6];omega
    have hkne:∀k,jW hs gs.length (fun k=>zo L (ord.getD k 0)) m k→(hs k).length≠(hs i).length:=by
     intro k hk he;rcases zxB k i with hlt|rfl|hgt
     ·have:=hk.lens M hpa;have:=M.le i (x:=k+1) hlt (by omega);omega
     ·exact hnl hk.2.2.1
     ·have:=M.le k (x:=i+1) hgt (by have:=hk.2.1;omega);omega
    have hst':zK call (zk (zI g) (frs i)) (H.take (hs i).length) g.op=some (val i,H.take (hs i).length++[ob]):=by unfold zK;rw[zgx hpi];have:=e3 (H.take (hs i).length);rw[htl,←e2] at this;exact this
    refine .inl (hrun i (i+1) _ hmi (zxc _) hil (fun q hq=> ?_) (by rw[zuR,htl,zuW,hli]) hst' hF _ fun ρ' w' q0 q1 q2 q3 q4=> ?_)
    ·rcases hq with hq|⟨k,hk,rfl⟩
     ·exact .inl (by omega)
     ·have:=hkne k hk;omega
    ·--the heap behind it
     have hH':∀q,(H.take (hs i).length++[ob]++H.drop (hs (i+1)).length)[q]? =if q=(hs i).length then some ob else H[q]? :=by
      intro q;rcases zxB q (hs i).length with hlt|rfl|hgt
      ·rw[zu9,zco (by omega) hlt,zuV (by omega)]
      ·rw[zuT rfl,zuO (by rw[zuR,htl,zuW];omega),zuP (by omega),htl,zvN];rfl
      ·rw[zuV (by omega),zuP (by rw[zuR,htl,zuW];omega),zvR,zuR,htl,zuW,hli];congr 1;omega
     have hEa:∀k,jW hs gs.length (fun k=>zo (L.setIfInBounds (ord.getD i 0) true) (ord.getD k 0)) m k↔k=i∨jW hs gs.length (fun k=>zo L (ord.getD k 0)) m k:=by
      intro k;constructor
      ·rintro⟨k1,k2,k3,k4⟩;exact((hls k2).1 k3).imp id fun k3=>⟨k1,k2,k3,k4⟩
      ·rintro(rfl|⟨k1,k2,k3,k4⟩)
       ·exact⟨hmi,hil,(hls hil).2 (.inl rfl),hne⟩
       ·exact⟨k1,k2,(hls k2).2 (.inr k3),k4⟩
     have hLa:∀q,ZY hs gs.length (fun k=>zo L (ord.getD k 0)) m q→ZY hs gs.length (fun k=>zo (L.setIfInBounds (ord.getD i 0) true) (ord.getD k 0)) m q:=by
      rintro q (h|⟨k,hk,h⟩)
      ·exact .inl h
      ·exact .inr ⟨k,(hEa k).2 (.inr hk),h⟩
     have hLi':ZY hs gs.length (fun k=>zo (L.setIfInBounds (ord.getD i 0) true) (ord.getD k 0)) m (hs i).length:= .inr ⟨i,(hEa i).2 (.inl rfl),rfl⟩;refine ih _ _ _ ⟨hsize',hclosed',(hsz _).1,(hsz _).2,ρ',m,_,hm,hcan,fun k hk hne=>(hls (by omega)).2 (.inr (h1 k hk hne)),fun k gk hk hgk hlk hne'=> ?_,?_,q1,fun q hq=> ?_,?_⟩ hfuel'
     ·rcases(hls (zuN.1 hgk).1).1 hlk with rfl|hlk
      ·rw[hg] at hgk;obtain rfl:=zuK hgk;exact hpi
      ·exact h2 k gk hk hgk hlk hne'
     ·refine⟨?_,fun q hq=> ?_,D.onm,fun k hk=> ?_,fun k o hk ho=> ?_,fun q q1 q2 q3=> ?_⟩
      ·rw[zuR,zuR,htl,zuW,zvY,hli];omega
      ·rw[hH',zuV (by omega)];exact D.old q hq
      ·rw[hH'];rcases(hEa k).1 hk with rfl|hk
       ·rw[zuT rfl,e1,zuP (zuQ _),zvN];rfl
       ·rw[zuV (hkne k hk)];exact D.early k hk
      ·rw[hH'] at ho;rcases(hEa k).1 hk with rfl|hk
       ·rw[zuT rfl] at ho;obtain rfl:=zuK ho;have hnl':=hd.nl k g hg;refine⟨e5 _ hnl' fun t v hv=> ?_,qg hLa (e5 _ hnl' hFlive)⟩;exact Qs (hF.get t v hv).2.2
       ·rw[zuV (hkne k hk)] at ho;obtain⟨s1,s2⟩:=D.enm k o hk ho;exact⟨s1,qg hLa s2⟩
      ·rw[hH',zuV (q3 i ((hEa i).2 (.inl rfl)))];exact D.dead q q1 q2 fun k hk=>q3 k ((hEa k).2 (.inr hk))
     ·exact(q3 q (by have:=M.le i (zws _) (by omega);omega)).trans (hE q hq)
     ·have hmx:max m (i+1)=i+1:=by omega
      refine hput ρ' m _ (zuQ _) hm (fun q hq=>⟨q2 q hq,hLa q hq⟩) (by rw[hmx];exact q4) ?_;rw[e2];exact e4 _ _ hLi'
   |false=>
    --where it may be run:a heap of the machine's,of which all is there
    have hsrc:yp g.op=true→hs (i+1)=hs i→∃x,m≤x∧x≤max m i∧(∀k,m≤k→k<x→hs (k+1)≠hs k→zo L (ord.getD k 0))∧zK call (zk (zI g) (frs i)) (hs x) g.op=some (val i,hs x)∧FrR ρ (hs x).length N (zk (zI g) (frs i)) a:=by
     intro hch heff;have hl:=zbX hch;rw[heff] at t1;rcases zwp i m with him|him
     ·rcases hcan with rfl|⟨k,gk,rfl,hgk,hpk,hne⟩
      ·omega
      ·have hki:k≠i:=fun e=>hne (e▸heff);have hkl:=h1 k (zwL _) hne;obtain⟨_,s2,s3⟩|⟨s3,_⟩:=hpair k (by omega) hne hki hl hpi (.inr ⟨gk,hgk,hpk⟩) (hnotB fun hb=>hnl (I.closed _ _ hkl hb)) (hnotB fun hb=>by have:=hlt i hil k (by omega) hb;omega)
       ·refine⟨k+1,zuQ _,by omega,fun k' h1 h2=>by omega,s2,hFlt _ ?_⟩;have h3:=(s3 hch).2;have hlek:=M.step k (by omega);exact zbq hlek h3
       ·rw[hch] at s3;cases s3
     ·have hmax:max m i=i:=by omega
      rw[hmax];by_cases hex:∃k,m≤k∧k<i∧hs (k+1)≠hs k∧¬zo L (ord.getD k 0)
      ·--the first one that is not done
       obtain⟨k,⟨k1,k2,k3,k4⟩,kmin⟩:=zdn (fun k=>m≤k∧k<i∧hs (k+1)≠hs k∧¬zo L (ord.getD k 0)) hex;obtain⟨s1,_,s3⟩|⟨s3,_⟩:=hpair k (by omega) k3 (by omega) hl hpi (.inl k2) (hnotB fun hb=>by have:=hlt k (by omega) i hil hb;omega) (hnotB fun hb=>k4 (hbef k hb))
       ·refine⟨k,k1,by omega,fun k' q1 q2 q3=> ?_,s1,hFlt _ (s3 hch).2⟩;apply Classical.byContradiction;intro hq;exact kmin k' q2 ⟨q1,by omega,q3,hq⟩
       ·rw[hch] at s3;cases s3
      ·refine⟨i,him,zuQ _,fun k q1 q2 q3=> ?_,t1,by rw[hmax] at hF;exact hF⟩;apply Classical.byContradiction;intro hq;exact hex ⟨k,q1,q2,q3,hq⟩
    --what reads:the object that it reads is there as it was
    have hrd:Yu g.op=true→yp g.op=false→zK call (zk (zI g) (frs i)) (H.take (hs (max m i)).length) g.op=some (val i,H.take (hs (max m i)).length):=by
     intro hl hch;have heff:hs (i+1)=hs i:=Yz hch t1;have hnc:jz g.op=false:=JO hch;have hst:=t1;rw[heff] at hst
     --from a heap of the machine's where it is the same
     have key:∀x,zK call (zk (zI g) (frs i)) (hs x) g.op=some (val i,hs x)→(∀p,rdO (zk (zI g) (frs i)) g.op=some p→p<(hs (max m i)).length∧H[p]? =(hs x)[p]?)→zK call (zk (zI g) (frs i)) (H.take (hs (max m i)).length) g.op=some (val i,H.take (hs (max m i)).length):=by intro x hx hpx;unfold zK at hx⊢;rw[hnc] at hx⊢;refine zjE hch hx fun p hpr=> ?_;obtain⟨h1,h2⟩:=hpx p hpr;rw[zvo,zuT h1,h2]
     cases hpr:rdO (zk (zI g) (frs i)) g.op with
     |none=>exact key i hst fun p hq=>by rw[hpr] at hq;cases hq
     |some p=>
      have haft:∀n',zic n' (zk (zI g) (frs i)) g.op→n'≤p:=fun n' h=>by unfold zic at h;rw[hpr] at h;exact h
      have hpl:ZY hs gs.length (fun k=>zo L (ord.getD k 0)) m p:=zsy (hd.nl i g hg) hFlive hpr;have hpi':p<(hs (max m i)).length:=rd_lt (hd.nl i g hg) (fun t v hv=>Qs (hF.get t v hv).2.2) hpr;rcases hpl with hpm|⟨k,hk,hpk⟩
      ·--it was there
       rcases zwp i m with him|him
       ·rcases hcan with rfl|⟨k,gk,rfl,hgk,hpk,hne⟩
        ·omega
        ·have hki:k≠i:=fun e=>hne (e▸heff);have hkl:=h1 k (zwL _) hne;obtain⟨_,s2,_⟩|⟨_,s3⟩:=hpair k (by omega) hne hki hl hpi (.inr ⟨gk,hgk,hpk⟩) (hnotB fun hb=>hnl (I.closed _ _ hkl hb)) (hnotB fun hb=>by have:=hlt i hil k (by omega) hb;omega)
         ·exact key (k+1) s2 fun q hq=>by rw[hpr] at hq;obtain rfl:=zuK hq;exact⟨hpi',D.old p hpm⟩
         ·have:=haft _ s3;omega
       ·have hsame:∀x,m≤x→x≤i→(∀k,m≤k→k<x→hs (k+1)≠hs k→zo L (ord.getD k 0))→H[p]? =(hs x)[p]? :=by
         intro x x1 x2 x3;have hte:=D.take_eq M hpa x x1 (by omega) x3;have:=M.le x x1 (by omega);rw[←hte,zvo,zuT (by omega)]
        by_cases hex:∃k,m≤k∧k<i∧hs (k+1)≠hs k∧¬zo L (ord.getD k 0)
        ·obtain⟨k,⟨k1,k2,k3,k4⟩,kmin⟩:=zdn (fun k=>m≤k∧k<i∧hs (k+1)≠hs k∧¬zo L (ord.getD k 0)) hex;obtain⟨s1,_,_⟩|⟨_,s3⟩:=hpair k (by omega) k3 (by omega) hl hpi (.inl k2) (hnotB fun hb=>by have:=hlt k (by omega) i hil hb;omega) (hnotB fun hb=>k4 (hbef k hb))
         ·refine key k s1 fun q hq=> ?_;rw[hpr] at hq;obtain rfl:=zuK hq;refine⟨hpi',hsame k k1 (by omega) fun k' q1 q2 q3=> ?_⟩;apply Classical.byContradiction;intro hq;exact kmin k' q2 ⟨q1,by omega,q3,hq⟩
         ·have:=haft _ s3;have:=M.le (k+1) (x:=m) (by omega) (by omega);omega
        ·refine key i hst fun q hq=> ?_;rw[hpr] at hq;obtain rfl:=zuK hq;refine⟨hpi',hsame i him (zuQ _) fun k q1 q2 q3=> ?_⟩;apply Classical.byContradiction;intro hq;exact hex ⟨k,q1,q2,q3,hq⟩
      ·--it was made ahead of its turn
       subst hpk;have hkl:=hk.lens M hpa;have hkN:=hk.2.1;have hki:k<i:=by apply Classical.byContradiction;intro hq;have:=M.le k (x:=max m i) (by have:=hk.1;omega) (by omega);omega
       have hEk:=D.early k hk
       --behind k:what changes there and makes no object of its own reads on
       have hsame:∀x,k+1≤x→x≤i→(∀j,k+1≤j→j<x→hs (j+1)≠hs j→∃gj,gs[j]? =some gj∧paE gj.op=true)→(hs x)[(hs k).length]? =(hs (k+1))[(hs k).length]? :=by
        intro x
        induction x with
        |zero=>intro h;omega
        |succ x ihx=>
         intro h1 h2 h3;by_cases e:k=x
         ·rw[e]
         ·have ihx:=ihx (by omega) (by omega) (fun j j1 j2=>h3 j j1 (by omega));by_cases hc:hs (x+1)=hs x
          ·rw[hc];exact ihx
          ·obtain⟨ob,hob⟩:=M.one x (by omega) (h3 x (by omega) (zwL _) hc) hc;have:=M.le x (x:=k+1) (by omega) (by omega);rw[hob,zuO (by omega)];exact ihx
       by_cases hex:∃j,k+1≤j∧j<i∧hs (j+1)≠hs j∧¬∃gj,gs[j]? =some gj∧paE gj.op=true
       ·obtain⟨j,⟨j1,j2,j3,j4⟩,jmin⟩:=zdn (fun j=>k+1≤j∧j<i∧hs (j+1)≠hs j∧¬∃gj,gs[j]? =some gj∧paE gj.op=true) hex;have jl:j<gs.length:=by omega
        have hgj:gs[j]? =some gs[j]:=zuY jl;have jnl:¬zo L (ord.getD j 0):=fun hlj=>j4 ⟨_,hgj,h2 j _ (by have:=hk.1;omega) hgj hlj j3⟩;obtain⟨s1,_,_⟩|⟨_,s3⟩:=hpair j jl j3 (by omega) hl hpi (.inl j2) (hnotB fun hb=>by have:=hlt j jl i hil hb;omega) (hnotB fun hb=>jnl (hbef j hb))
        ·refine key j s1 fun q hq=> ?_;rw[hpr] at hq;obtain rfl:=zuK hq;refine⟨hpi',hEk.trans (hsame j j1 (by omega) fun j' q1 q2 q3=> ?_).symm⟩;apply Classical.byContradiction;intro hq;exact jmin j' q2 ⟨q1,by omega,q3,hq⟩
        ·have:=haft _ s3;have:=M.le (j+1) (x:=k+1) (by omega) (by omega);omega
       ·refine key i hst fun q hq=> ?_;rw[hpr] at hq;obtain rfl:=zuK hq;refine⟨hpi',hEk.trans (hsame i hki (zuQ _) fun j q1 q2 q3=> ?_).symm⟩;apply Classical.byContradiction;intro hq;exact hex ⟨j,q1,q2,q3,hq⟩
    cases hch:yp g.op with
    |false=>
     --it changes nothing
     have heff:hs (i+1)=hs i:=Yz hch t1;have hnc:jz g.op=false:=JO hch;have hst:zK call (zk (zI g) (frs i)) (H.take (hs (max m i)).length) g.op=some (val i,H.take (hs (max m i)).length):=by
      cases hl:Yu g.op with
      |false=>exact(zir hl t1).2 _
      |true=>exact hrd hl hch
     have hHl:=D.len;have hmN:=M.le gs.length (x:=max m i) (by omega) (zuQ _);refine .inl (hrun (max m i) (max m i) _ (by omega) (zuQ _) (by omega) (fun q _=>by omega) (by rw[zu6];omega) hst hF _ fun ρ' w' q0 q1 q2 q3 q4=> ?_);rw[zvn] at q1;refine hstay ρ' w' heff q1 q2 (fun q hq=>q3 q (by have:=M.le (max m i) (zws _) (by omega);omega)) (zbb (Ext.refl _ _) (M.le (max m (i+1)) (by omega) (by omega)) q4) ?_;unfold zK at hst;rw[hnc] at hst;exact op_nm hch (hd.nl i g hg) hFlive (fun p o hp ho=>D.nmLive p o hp (Qn ho).2) hst
    |true=>
     have hlook:=zbX hch;by_cases heff:hs (i+1)=hs i
     ·obtain⟨x,x1,x2,x3,x4,x5⟩:=hsrc hch heff;have hxN:x≤gs.length:=by omega
      have hte:=D.take_eq M hpa x x1 hxN x3;refine .inl (hrun x x (hs x) x1 (zuQ _) hxN (fun q _=>by omega) rfl (by rw[hte];exact x4) x5 _ fun ρ' w' q0 q1 q2 q3 q4=> ?_);have etd:=zvn (hs x).length H;rw[hte] at etd;rw[etd] at q1;refine hstay ρ' w' heff q1 q2 (fun q hq=>q3 q (by have:=M.le x (zws _) hxN;omega)) (zbb (Ext.refl _ _) (M.le (max m (i+1)) (by omega) (by omega)) q4) ?_;exact jh (fun q hq=>Pad.allLive M hpa x x1 hxN x3 q hq) (Qs q4)
     ·--it changes the heap:all ahead of it is done
      have hahead:∀k,k<i→hs (k+1)≠hs k→zo L (ord.getD k 0):=by
       intro k hk hne;apply Classical.byContradiction;intro hq;have:=hpair k (by omega) hne (by omega) hlook hpi (.inl hk) (hnotB fun hb=>by have:=hlt k (by omega) i hil hb;omega) (hnotB fun hb=>hq (hbef k hb));rcases this with this|⟨this,_⟩
       ·exact heff (this.2.2 hch).1
       ·rw[hch] at this;cases this
      have hmi:m≤i:=by apply Classical.byContradiction;intro hq;exact hnl (h1 i (by omega) heff)
      have hmax:max m i=i:=by omega
      rw[hmax] at hF;have hte:=D.take_eq M hpa i hmi (by omega) (fun k _ hk hne=>hahead k hk hne);have hiN:=M.le gs.length (x:=i+1) hil (zuQ _);have hmil:=M.le i hmi (by omega);have hii:=M.step i hil;have hHl:=D.len;have hke:∀k,jW hs gs.length (fun k=>zo L (ord.getD k 0)) m k→(k<i∧(hs k).length<(hs i).length)∨(i+1≤k∧(hs (i+1)).length≤(hs k).length):=by
       intro k hk;rcases zxB k i with hlt'|rfl|hgt
       ·have:=hk.lens M hpa;have:=M.le i (x:=k+1) hlt' (by omega);exact .inl ⟨hlt',by omega⟩
       ·exact absurd hk.2.2.1 hnl
       ·exact .inr ⟨hgt,M.le k (x:=i+1) hgt (by have:=hk.2.1;omega)⟩
      refine .inl (hrun i (i+1) (hs (i+1)) hmi (zxc _) hil (fun q hq=> ?_) rfl (by rw[hte];exact t1) hF _ fun ρ' w' q0 q1 q2 q3 q4=> ?_)
      ·rcases hq with hq|⟨k,hk,rfl⟩
       ·exact .inl (by omega)
       ·rcases hke k hk with⟨_,h⟩|⟨_,h⟩
        ·exact .inl h
        ·exact .inr h
      ·have hEa:∀k,jW hs gs.length (fun k=>zo (L.setIfInBounds (ord.getD i 0) true) (ord.getD k 0)) (i+1) k↔i+1≤k∧jW hs gs.length (fun k=>zo L (ord.getD k 0)) m k:=by
        intro k;constructor
        ·rintro⟨k1,k2,k3,k4⟩;rcases(hls k2).1 k3 with rfl|k3
         ·omega
         ·exact⟨k1,by omega,k2,k3,k4⟩
        ·rintro⟨k1,k2,k3,k4,k5⟩;exact⟨k1,k3,(hls k3).2 (.inr k4),k5⟩
       have hLa:∀q,ZY hs gs.length (fun k=>zo L (ord.getD k 0)) m q→ZY hs gs.length (fun k=>zo (L.setIfInBounds (ord.getD i 0) true) (ord.getD k 0)) (i+1) q:=by
        rintro q (h|⟨k,hk,rfl⟩)
        ·exact .inl (by omega)
        ·rcases hke k hk with⟨_,h⟩|⟨h,_⟩
         ·exact .inl (by omega)
         ·exact .inr ⟨k,(hEa k).2 ⟨h,hk⟩,rfl⟩
       have hH':∀q,(hs (i+1)).length≤q→(hs (i+1)++H.drop (hs (i+1)).length)[q]? =H[q]? :=by intro q hq;rw[zuP hq,zvR];congr 1;omega
       have hob:=fun q o (ho:(hs (i+1))[q]? =some o)=>q1.obj q o (by rw[zuO (zuN.1 ho).1];exact ho);refine ih _ _ _ ⟨hsize',hclosed',(hsz _).1,(hsz _).2,ρ',i+1,_,hil,.inr ⟨i,g,rfl,hg,hpi,heff⟩,fun k hk hne=> ?_,fun k gk hk hgk hlk hne'=> ?_,?_,q1,fun q hq=> ?_,?_⟩ hfuel'
       ·by_cases e:k=i
        ·exact(hls (by omega)).2 (.inl e)
        ·exact(hls (by omega)).2 (.inr (hahead k (by omega) hne))
       ·rcases(hls (zuN.1 hgk).1).1 hlk with rfl|hlk
        ·omega
        ·exact h2 k gk (by omega) hgk hlk hne'
       ·refine⟨?_,fun q hq=> ?_,?_,fun k hk=> ?_,fun k o hk ho=> ?_,fun q q1 q2 q3=> ?_⟩
        ·rw[zuR,zvY];omega
        ·rw[zuO hq]
        ·exact q0
        ·obtain⟨k1,k2⟩:=(hEa k).1 hk;rw[hH' _ (M.le k k1 (by have:=k2.2.1;omega))];exact D.early k k2
        ·obtain⟨k1,k2⟩:=(hEa k).1 hk;rw[hH' _ (M.le k k1 (by have:=k2.2.1;omega))] at ho;obtain⟨s1,s2⟩:=D.enm k o k2 ho;exact⟨s1,qg hLa s2⟩
        ·rw[hH' q q1];refine D.dead q (by omega) q2 fun k hk=> ?_;rcases hke k hk with⟨_,h⟩|⟨h,_⟩
         ·omega
         ·exact q3 k ((hEa k).2 ⟨h,hk⟩)
       ·exact(q3 q (by have:=M.le i (zws _) (by omega);omega)).trans (hE q hq)
       ·refine hput ρ' (i+1) _ (by omega) hil (fun q hq=>⟨q2 q hq,hLa q hq⟩) (by rw[Nat.max_self];exact q4) ?_;exact jh (fun q hq=> .inl hq) (Qs q4)
theorem Rel.deads(R:Rel P w0 ρ h w):∀d,Rel P w0 ρ (h++List.replicate d .dead) w
 |0=>by rw[List.replicate_zero,zvl];exact R
 |d+1=>by rw[List.replicate_succ',←zu9];exact(R.deads d).add .dead trivial (fun h=>by cases h) (fun h=>by cases h)
theorem zql{G:Base→Prop}(hG:JI P G)(hgd:G w0)(hm:P.follows .mixedOrders=true){call:zU}(hcall:∀w0,G w0→ZE P w0 call)(hgrow:YB call){id:Nat}{ops:Array Oper}{ord:List Nat}{l0:List EG}(hc:Zj P N ops ops.toList=some l0)(hd:zfU ops ord (Yi ord l0)=true){fr':Fr}{h':LH}
 (he:Zv call (Yi ord l0) (zaX ops ord (Yi ord l0)) fr h=some (fr',h'))
 (R:Rel P w0 ρ h w) (hF:FrR ρ h.length N fr a) (hQ:∀ρ' a' w',Rel P w0 ρ' h' w'→FrR ρ' h'.length N fr' a'→Ext h.length ρ ρ'→h.length≤h'.length→Q .normal a' w'):(Code.region id ops true).wp P Q a w:=by
 have hd:=zlH hc hd;generalize Yi ord l0=gs at hd he;unfold Zv at he;split at he
 ·rename_i tr fr1 h1 htr;split at he
  ·rename_i hp;simp only[zuI,zuL] at he;obtain⟨rfl,rfl⟩:=he;obtain⟨frs,hs,val,want,T⟩:=zei gs fr h tr fr1 h1 htr;refine wp_region_any hm ?_;have hno:∀j,¬zo (Array.replicate ops.size false) j:=by
    intro j hj;unfold zo at hj;rw[zvP,Array.getElem?_replicate] at hj;split at hj<;>cases hj
   have R0:Rel P w0 ρ h (w.drewN 1):=R.drewN 1;have hgr:h.length≤(hs gs.length).length:=by rw[T.hN];exact Jm hgrow _ _ _ _ _ _ htr
   refine znp hG hgd hcall hgrow hd T hp rfl (ρ0:=ρ) hQ ops.size _ a _ ⟨by simp,fun x y hk=>absurd hk (hno x),hF.size,hF.defers,?_⟩ ?_
   ·refine⟨ρ,0,h++List.replicate ((hs gs.length).length-h.length) .dead,zws _,.inl rfl,fun k hk=>by omega,fun k g _ _ hk=>absurd hk (hno _),?_,R0.deads _,Ext.refl _ _,?_⟩
    ·refine⟨by rw[zuR,List.length_replicate];omega,fun q hq=> ?_,fun q o ho=> ?_,fun k hk=>absurd hk.2.2.1 (hno _),fun k o hk=>absurd hk.2.2.1 (hno _),fun q q1 q2 q3=> ?_⟩
     ·rw[T.h0] at hq⊢;rw[zuO hq]
     ·rw[T.h0] at ho⊢;exact(R.obj q o ho).nm
     ·rw[T.h0] at q1;rw[zuP q1,List.getElem?_replicate,zuT (by omega)]
    ·rintro t v p (⟨i,g,q1,_⟩|⟨_,q2,rfl⟩)
     ·exact absurd q1 (hno _)
     ·obtain⟨r1,r2,r3⟩:=hF.get t v q2;refine⟨r1,r2,by rw[Nat.max_self,T.h0];exact r3,jh (fun q hq=> .inl (by rw[T.h0];exact hq)) (Qs r3),zws _⟩
   ·have:=zwd (fun i=> !(Array.replicate ops.size false).getD i false) (List.range gs.length);rw[zxX] at this;have:=hd.size;omega
  ·cases he
 ·cases he
end
end
section
variable {P:Program} {w0:Base}
def zf2:Ex→Exit
 | .normal=> .normal
 | .exit id=> .exit id
 | .goto l=> .goto l
 | .ret=> .ret
section
variable {N:Nat}
theorem zcD:∀(c:Code) (hs:List (List Nat)) (ec:EC) (hs':List (List Nat)),yq P N c hs=some (ec,hs')→∀l,Yr ec l=(findLabel c l).isSome:=by
 intro c
 induction c with
 |seq x y ihx ihy=>
  intro hs ec hs' hc l;simp only[yq] at hc;split at hc
  ·rename_i x' hs1 hx;obtain⟨⟨y',hs2⟩,hy,hq⟩:=zuM.1 hc;obtain⟨rfl,rfl⟩:=zu5 hq;simp only[Yr,findLabel,ihx _ _ _ hx l,ihy _ _ _ hy l];cases findLabel x l<;>simp
  ·cases hc
 |label l'=>
  intro hs ec hs' hc l;simp only[yq,zuI,zuL] at hc;obtain⟨rfl,rfl⟩:=hc;simp only[Yr,findLabel];cases l'==l<;>rfl
 |region id ops dr=>
  intro hs ec hs' hc l;cases dr with
  |false=>
   simp only[yq] at hc;obtain⟨l',hl,hq⟩:=zuM.1 hc;obtain⟨rfl,rfl⟩:=zu5 hq;rfl
  |true=>
   simp only[yq] at hc;split at hc
   ·split at hc
    ·obtain⟨rfl,rfl⟩:=zu5 (zuK hc);rfl
    ·cases hc
   ·cases hc
 |cond c x y ihx ihy=>
  intro hs ec hs' hc l;simp only[yq] at hc;split at hc
  ·obtain⟨⟨y',hs2⟩,hy,hq⟩:=zuM.1 hc;obtain⟨rfl,rfl⟩:=zu5 hq;rfl
  ·cases hc
 |block id b ih=>
  intro hs ec hs' hc l;simp only[yq] at hc;obtain⟨⟨b',hs1⟩,hb,hq⟩:=zuM.1 hc;obtain⟨rfl,rfl⟩:=zu5 hq;rfl
 |loop b ih=>
  intro hs ec hs' hc l;simp only[yq] at hc;obtain⟨⟨b',hs1⟩,hb,hq⟩:=zuM.1 hc;obtain⟨rfl,rfl⟩:=zu5 hq;rfl
 |scope b ih=>
  intro hs ec hs' hc l;simp only[yq] at hc;obtain⟨⟨b',hs1⟩,hb,hq⟩:=zuM.1 hc;obtain⟨rfl,rfl⟩:=zu5 hq;rfl
 |exit id=>
  intro hs ec hs' hc l;simp only[yq,zuI,zuL] at hc;obtain⟨rfl,rfl⟩:=hc;rfl
 |goto id=>
  intro hs ec hs' hc l;simp only[yq,zuI,zuL] at hc;obtain⟨rfl,rfl⟩:=hc;rfl
 |ret=>
  intro hs ec hs' hc l;simp only[yq,zuI,zuL] at hc;obtain⟨rfl,rfl⟩:=hc;rfl
 |skip=>
  intro hs ec hs' hc l;simp only[yq,zuI,zuL] at hc;obtain⟨rfl,rfl⟩:=hc;rfl
 |_=>
  intro hs ec hs' hc;simp only[yq] at hc;cases hc
theorem znj{G:Base→Prop}(hG:JI P G)(hg:G w0)(hm:P.follows .mixedOrders=true){call:zU}(hcall:∀w0,G w0→ZE P w0 call)(hgrow:YB call)(n:Nat):∀(c:Code) (hs:List (List Nat)) (ec:EC) (hs':List (List Nat)),yq P N c hs=some (ec,hs')→
 (∀(fr:Fr) (h:LH) (ex:Ex) (fr':Fr) (h':LH),zp call n ec fr h=some (ex,fr',h')→∀(ρ:Nat→Ph) (a:Act) (w:World),Rel P w0 ρ h w→FrR ρ h.length N fr a→
 ∀(Q:Exit→Act→World→Prop),(∀ρ' a' w',Rel P w0 ρ' h' w'→FrR ρ' h'.length N fr' a'→Ext h.length ρ ρ'→h.length≤h'.length→Q (zf2 ex) a' w')→c.wp P Q a w)∧
 ∀(l:Nat) (rest:Code),findLabel c l=some rest→∀(fr:Fr) (h:LH) (ex:Ex) (fr':Fr) (h':LH),zL call n ec l fr h=some (ex,fr',h')→∀(ρ:Nat→Ph) (a:Act) (w:World),Rel P w0 ρ h w→FrR ρ h.length N fr a→
 ∀(Q:Exit→Act→World→Prop),(∀ρ' a' w',Rel P w0 ρ' h' w'→FrR ρ' h'.length N fr' a'→Ext h.length ρ ρ'→h.length≤h'.length→Q (zf2 ex) a' w')→rest.wp P Q a w:=by
 intro c
 induction c with
 |skip=>
  intro hs ec hs' hc;refine⟨?_,fun l rest hf=>by simp only[findLabel] at hf;cases hf⟩;intro fr h ex fr' h' he ρ a w R hF Q hQ;simp only[yq,zuI,zuL] at hc;obtain⟨rfl,rfl⟩:=hc;simp only[zp,zuI,zuL] at he;obtain⟨rfl,rfl,rfl⟩:=he;exact wp_skip (hQ ρ a w R hF (Ext.refl _ _) (zuQ _))
 |region id ops dr=>
  intro hs ec hs' hc;refine⟨?_,fun l rest hf=>by simp only[findLabel] at hf;cases hf⟩;intro fr h ex fr' h' he ρ a w R hF Q hQ;cases dr with
  |false=>
   simp only[yq] at hc;obtain⟨l,hl,hq⟩:=zuM.1 hc;obtain⟨rfl,rfl⟩:=zu5 hq;simp only[zp] at he;obtain⟨⟨fr1,h1⟩,h2,hq⟩:=zuM.1 he;simp only[zuL] at hq;obtain⟨rfl,rfl,rfl⟩:=hq;exact wp_region_list (zbH (hcall w0 hg) ops.toList l fr h _ _ ρ a w hl h2 R hF fun ρ' a' w' q1 q2=>hQ ρ' a' w' q1 (q2.keep _))
  |true=>
   simp only[yq] at hc;split at hc
   ·rename_i l hl;split at hc
    ·rename_i hd;obtain⟨rfl,rfl⟩:=zu5 (zuK hc);simp only[zp] at he;obtain⟨⟨fr1,h1⟩,h2,hq⟩:=zuM.1 he;simp only[zuL] at hq;obtain⟨rfl,rfl,rfl⟩:=hq;exact zql hG hg hm hcall hgrow hl hd h2 R hF fun ρ' a' w' q1 q2=>hQ ρ' a' w' q1 (q2.keep _)
    ·cases hc
   ·cases hc
 |seq x y ihx ihy=>
  intro hs ec hs' hc;simp only[yq] at hc;split at hc
  ·rename_i x' hs1 hx;obtain⟨⟨y',hs2⟩,hy,hq⟩:=zuM.1 hc;obtain⟨rfl,rfl⟩:=zu5 hq;refine⟨fun fr h ex fr' h' he ρ a w R hF Q hQ=> ?_,fun l rest hf fr h ex fr' h' he ρ a w R hF Q hQ=> ?_⟩
   ·simp only[zp] at he;refine wp_seq ?_;split at he
    ·rename_i fr1 h1 he1;refine(ihx _ _ _ hx).1 fr h _ fr1 h1 he1 ρ a w R hF _ (fun ρ1 a1 w1 q1 q2 q3 q4=> ?_);exact(ihy _ _ _ hy).1 fr1 h1 ex fr' h' he ρ1 a1 w1 q1 q2 Q (fun ρ2 a2 w2 r1 r2 r3 r4=>hQ ρ2 a2 w2 r1 r2 (q3.trans q4 r3) (by omega))
    ·rename_i hne;refine(ihx _ _ _ hx).1 fr h ex fr' h' he ρ a w R hF _ (fun ρ1 a1 w1 q1 q2 q3 q4=> ?_);have:=hQ ρ1 a1 w1 q1 q2 q3 q4;cases ex with
     |normal=>exact absurd he (hne _ _)
     |exit id=>exact this
     |goto l=>exact this
     |ret=>exact this
   ·simp only[zL] at he;simp only[findLabel] at hf;rw[zcD _ _ _ _ hx l] at he;cases hfx:findLabel x l with
    |some r1=>
     rw[hfx] at hf he;obtain rfl:=zuK hf;simp only[Option.isSome_some,if_true] at he;refine wp_seq ?_;split at he
     ·rename_i fr1 h1 he1;refine(ihx _ _ _ hx).2 l _ hfx fr h _ fr1 h1 he1 ρ a w R hF _ (fun ρ1 a1 w1 q1 q2 q3 q4=> ?_);exact(ihy _ _ _ hy).1 fr1 h1 ex fr' h' he ρ1 a1 w1 q1 q2 Q (fun ρ2 a2 w2 r1 r2 r3 r4=>hQ ρ2 a2 w2 r1 r2 (q3.trans q4 r3) (by omega))
     ·rename_i hne;refine(ihx _ _ _ hx).2 l _ hfx fr h ex fr' h' he ρ a w R hF _ (fun ρ1 a1 w1 q1 q2 q3 q4=> ?_);have:=hQ ρ1 a1 w1 q1 q2 q3 q4;cases ex with
      |normal=>exact absurd he (hne _ _)
      |exit id=>exact this
      |goto l=>exact this
      |ret=>exact this
    |none=>
     rw[hfx] at hf he;simp only[zxU,zvg,if_false] at he;exact(ihy _ _ _ hy).2 l rest hf fr h ex fr' h' he ρ a w R hF Q hQ
  ·cases hc
 |cond c x y ihx ihy=>
  intro hs ec hs' hc;refine⟨?_,fun l rest hf=>by simp only[findLabel] at hf;cases hf⟩;intro fr h ex fr' h' he ρ a w R hF Q hQ;simp only[yq] at hc;split at hc
  ·rename_i c' x' hs1 hcc hx;obtain⟨⟨y',hs2⟩,hy,hq⟩:=zuM.1 hc;obtain⟨rfl,rfl⟩:=zu5 hq;simp only[zp] at he;split at he
   ·rename_i t ht;obtain⟨e1,_⟩:=zh hF hcc ht;refine wp_cond (t:=t) (by rw[e1];rfl) ?_;cases t with
    |true=>exact(ihx _ _ _ hx).1 fr h ex fr' h' he ρ a w R hF Q hQ
    |false=>exact(ihy _ _ _ hy).1 fr h ex fr' h' he ρ a w R hF Q hQ
   ·cases he
  ·cases hc
 |block id b ih=>
  intro hs ec hs' hc;refine⟨?_,fun l rest hf=>by simp only[findLabel] at hf;cases hf⟩;intro fr h ex fr' h' he ρ a w R hF Q hQ;simp only[yq] at hc;obtain⟨⟨b',hs1⟩,hb,hq⟩:=zuM.1 hc;obtain⟨rfl,rfl⟩:=zu5 hq;simp only[zp] at he;refine wp_block ?_;split at he
  ·rename_i id' fr1 h1 he1;refine(ih _ _ _ hb).1 fr h _ fr1 h1 he1 ρ a w R hF _ (fun ρ1 a1 w1 q1 q2 q3 q4=> ?_);simp only[zf2,Exit.inBlock];split at he
   ·rename_i hid;simp only[zuI,zuL] at he;obtain⟨rfl,rfl,rfl⟩:=he;rw[zuT hid];exact hQ ρ1 a1 w1 q1 q2 q3 q4
   ·rename_i hid;simp only[zuI,zuL] at he;obtain⟨rfl,rfl,rfl⟩:=he;rw[zuV hid];exact hQ ρ1 a1 w1 q1 q2 q3 q4
  ·rename_i hne;refine(ih _ _ _ hb).1 fr h ex fr' h' he ρ a w R hF _ (fun ρ1 a1 w1 q1 q2 q3 q4=> ?_);have:=hQ ρ1 a1 w1 q1 q2 q3 q4;cases ex with
   |normal=>exact this
   |exit id=>exact absurd he (hne _ _ _)
   |goto l=>exact this
   |ret=>exact this
 |loop b ih=>
  intro hs ec hs' hc;refine⟨?_,fun l rest hf=>by simp only[findLabel] at hf;cases hf⟩;intro fr h ex fr' h' he ρ a w R hF Q hQ;simp only[yq] at hc;obtain⟨⟨b',hs1⟩,hb,hq⟩:=zuM.1 hc;obtain⟨rfl,rfl⟩:=zu5 hq;simp only[zp] at he;refine wp_loop_rounds n ?_
  have key:∀(m:Nat) (fr:Fr) (h:LH) (ρ:Nat→Ph) (a:Act) (w:World),jY (zp call n b') (jn hs).1 m fr h=some (ex,fr',h')→Rel P w0 ρ h w→FrR ρ h.length N fr a→
   (∀ρ' a' w',Rel P w0 ρ' h' w'→FrR ρ' h'.length N fr' a'→Ext h.length ρ ρ'→h.length≤h'.length→Q (zf2 ex) a' w')→Code.rounds P b Q m a w:=by
   intro m
   induction m with
   |zero=>intro fr h ρ a w he;cases he
   |succ m ihm=>
    intro fr h ρ a w he R hF hQ;simp only[jY] at he;rw[rounds_succ];split at he
    ·rename_i fr1 h1 he1;refine(ih _ _ _ hb).1 _ h _ fr1 h1 he1 ρ a w R (hF.keep _) _ (fun ρ1 a1 w1 q1 q2 q3 q4=> ?_);exact ihm fr1 h1 ρ1 a1 w1 he q1 q2 (fun ρ2 a2 w2 r1 r2 r3 r4=>hQ ρ2 a2 w2 r1 r2 (q3.trans q4 r3) (by omega))
    ·rename_i hne;refine(ih _ _ _ hb).1 _ h ex fr' h' he ρ a w R (hF.keep _) _ (fun ρ1 a1 w1 q1 q2 q3 q4=> ?_);have:=hQ ρ1 a1 w1 q1 q2 q3 q4;cases ex with
     |normal=>exact absurd he (hne _ _)
     |exit id=>exact this
     |goto l=>exact this
     |ret=>exact this
  exact key n fr h ρ a w he R hF hQ
 |exit id=>
  intro hs ec hs' hc;refine⟨?_,fun l rest hf=>by simp only[findLabel] at hf;cases hf⟩;intro fr h ex fr' h' he ρ a w R hF Q hQ;simp only[yq,zuI,zuL] at hc;obtain⟨rfl,rfl⟩:=hc;simp only[zp,zuI,zuL] at he;obtain⟨rfl,rfl,rfl⟩:=he;exact wp_exit (hQ ρ a w R (hF.keep _) (Ext.refl _ _) (zuQ _))
 |ret=>
  intro hs ec hs' hc;refine⟨?_,fun l rest hf=>by simp only[findLabel] at hf;cases hf⟩;intro fr h ex fr' h' he ρ a w R hF Q hQ;simp only[yq,zuI,zuL] at hc;obtain⟨rfl,rfl⟩:=hc;simp only[zp,zuI,zuL] at he;obtain⟨rfl,rfl,rfl⟩:=he;exact wp_ret (hQ ρ a w R (hF.keep _) (Ext.refl _ _) (zuQ _))
 |label l'=>
  intro hs ec hs' hc;simp only[yq,zuI,zuL] at hc;obtain⟨rfl,rfl⟩:=hc;refine⟨fun fr h ex fr' h' he ρ a w R hF Q hQ=> ?_,fun l rest hf fr h ex fr' h' he ρ a w R hF Q hQ=> ?_⟩
  ·simp only[zp,zuI,zuL] at he;obtain⟨rfl,rfl,rfl⟩:=he;exact wp_label (hQ ρ a w R hF (Ext.refl _ _) (zuQ _))
  ·simp only[zL] at he;simp only[findLabel] at hf;split at he
   ·rename_i hl;rw[zuT hl] at hf;obtain rfl:=zuK hf;simp only[zuI,zuL] at he;obtain⟨rfl,rfl,rfl⟩:=he;exact wp_skip (hQ ρ a w R hF (Ext.refl _ _) (zuQ _))
   ·cases he
 |goto l=>
  intro hs ec hs' hc;refine⟨?_,fun l rest hf=>by simp only[findLabel] at hf;cases hf⟩;intro fr h ex fr' h' he ρ a w R hF Q hQ;simp only[yq,zuI,zuL] at hc;obtain⟨rfl,rfl⟩:=hc;simp only[zp,zuI,zuL] at he;obtain⟨rfl,rfl,rfl⟩:=he;exact wp_goto (hQ ρ a w R (hF.keep _) (Ext.refl _ _) (zuQ _))
 |scope c ih=>
  intro hs ec hs' hc;refine⟨?_,fun l rest hf=>by simp only[findLabel] at hf;cases hf⟩;simp only[yq] at hc;obtain⟨⟨c',hs1⟩,hb,hq⟩:=zuM.1 hc;obtain⟨rfl,rfl⟩:=zu5 hq;intro fr h ex fr' h' he ρ a w R hF Q hQ b k cs;simp only[zp] at he;obtain⟨ih1,ih2⟩:=ih _ _ _ hb
  have key:∀(m:Nat) (m0:Machine) (ex0:Ex) (fr0:Fr) (h0:LH) (ρ0:Nat→Ph) (a0:Act) (w0':World),yb (zL call n c') (Yr c') m (some (ex0,fr0,h0))=some (ex,fr',h')→Rel P w0 ρ0 h0 w0'→FrR ρ0 h0.length N fr0 a0→Ext h.length ρ ρ0→h.length≤h0.length→
   Arrives P m0 b (.inScope c::k) cs (zf2 ex0) a0 w0'→∃e a' w',Q e a' w'∧Arrives P m0 b k cs e a' w':=by
   intro m
   induction m with
   |zero=>
    intro m0 ex0 fr0 h0 ρ0 a0 w0' he R0 F0 E0 L0 ha;unfold yb at he;split at he
    ·rename_i l fr1 h1 e;simp only[zuI,zuL] at e;obtain⟨rfl,rfl,rfl⟩:=e;split at he
     ·cases he
     ·rename_i hl;simp only[zuI,zuL] at he;obtain⟨rfl,rfl,rfl⟩:=he;rw[zcD _ _ _ _ hb l] at hl;have hn:findLabel c l=none:=by
       cases hfl:findLabel c l with
       |none=>rfl
       |some r=>rw[hfl] at hl;exact absurd rfl hl
      exact⟨_,_,_,hQ _ _ _ R0 F0 E0 L0,fun k' hk=>ha k' (by simp only[gotoIn,hn];exact hk)⟩
    ·rename_i hne;simp only[zuI,zuL] at he;obtain⟨rfl,rfl,rfl⟩:=he;refine⟨_,_,_,hQ _ _ _ R0 F0 E0 L0,?_⟩;cases ex0 with
     |normal=>exact Steps.trans ha (.one step_inScope)
     |exit id=>exact fun k' hk=>ha k' (by simp[exitTo,hk])
     |goto l=>exact absurd rfl (hne l _ _)
     |ret=>exact ha
   |succ m ihm=>
    intro m0 ex0 fr0 h0 ρ0 a0 w0' he R0 F0 E0 L0 ha;unfold yb at he;split at he
    ·rename_i l fr1 h1 e;simp only[zuI,zuL] at e;obtain⟨rfl,rfl,rfl⟩:=e;split at he
     ·rename_i hl;rw[zcD _ _ _ _ hb l] at hl;obtain⟨rest,hr⟩:=zv8.1 hl;cases hat:zL call n c' l fr0 h0 with
      |none=>rw[hat] at he;unfold yb at he;cases he
      |some r=>
       obtain⟨ex1,fr1,h1⟩:=r;rw[hat] at he;have hst:=ha (.code rest:: .inScope c::k) (by simp[gotoIn,hr]);obtain⟨e1,a1,w1,⟨ρ1,rfl,R1,F1,E1,L1⟩,har⟩:=ih2 l rest hr fr0 h0 ex1 fr1 h1 hat ρ0 a0 w0' R0 F0 (fun e a' w'=>∃ρ1,e=zf2 ex1∧Rel P w0 ρ1 h1 w'∧FrR ρ1 h1.length N fr1 a'∧Ext h0.length ρ0 ρ1∧h0.length≤h1.length) (fun ρ1 a1 w1 q1 q2 q3 q4=>⟨ρ1,rfl,q1,q2,q3,q4⟩) b (.inScope c::k) cs;obtain⟨e2,a2,w2,hq2,har2⟩:=ihm _ _ _ _ _ _ _ he R1 F1 (E0.trans L0 E1) (zvB L0 L1) har;exact⟨e2,a2,w2,hq2,.of_steps hst har2⟩
     ·rename_i hl;simp only[zuI,zuL] at he;obtain⟨rfl,rfl,rfl⟩:=he;rw[zcD _ _ _ _ hb l] at hl;have hn:findLabel c l=none:=by
       cases hfl:findLabel c l with
       |none=>rfl
       |some r=>rw[hfl] at hl;exact absurd rfl hl
      exact⟨_,_,_,hQ _ _ _ R0 F0 E0 L0,fun k' hk=>ha k' (by simp only[gotoIn,hn];exact hk)⟩
    ·rename_i hne;simp only[zuI,zuL] at he;obtain⟨rfl,rfl,rfl⟩:=he;refine⟨_,_,_,hQ _ _ _ R0 F0 E0 L0,?_⟩;cases ex0 with
     |normal=>exact Steps.trans ha (.one step_inScope)
     |exit id=>exact fun k' hk=>ha k' (by simp[exitTo,hk])
     |goto l=>exact absurd rfl (hne l _ _)
     |ret=>exact ha
  cases hr:zp call n c' fr h with
  |none=>rw[hr] at he;unfold yb at he;cases he
  |some r=>
   obtain⟨ex1,fr1,h1⟩:=r;rw[hr] at he;obtain⟨e1,a1,w1,⟨ρ1,rfl,R1,F1,E1,L1⟩,har⟩:=ih1 fr h ex1 fr1 h1 hr ρ a w R hF (fun e a' w'=>∃ρ1,e=zf2 ex1∧Rel P w0 ρ1 h1 w'∧FrR ρ1 h1.length N fr1 a'∧Ext h.length ρ ρ1∧h.length≤h1.length) (fun ρ1 a1 w1 q1 q2 q3 q4=>⟨ρ1,rfl,q1,q2,q3,q4⟩) b (.inScope c::k) cs;obtain⟨e2,a2,w2,hq2,har2⟩:=key n _ _ _ _ _ _ _ he R1 F1 E1 L1 har;exact⟨e2,a2,w2,hq2,.of_steps (.one step_scope) har2⟩
 |_=>
  intro hs ec hs' hc;simp only[yq] at hc;cases hc
theorem zct{G:Base→Prop}(hG:JI P G)(hg:G w0)(hm:P.follows .mixedOrders=true){call:zU}(hcall:∀w0,G w0→ZE P w0 call)(hgrow:YB call)(n:Nat)(c:Code)(hs:List (List Nat))(ec:EC)(hs':List (List Nat))(hc:yq P N c hs=some (ec,hs'))
 (fr:Fr) (h:LH) (ex:Ex) (fr':Fr) (h':LH) (he:zp call n ec fr h=some (ex,fr',h')) (ρ:Nat→Ph) (a:Act) (w:World) (R:Rel P w0 ρ h w) (hF:FrR ρ h.length N fr a)
 (Q:Exit→Act→World→Prop) (hQ:∀ρ' a' w',Rel P w0 ρ' h' w'→FrR ρ' h'.length N fr' a'→Ext h.length ρ ρ'→h.length≤h'.length→Q (zf2 ex) a' w'):c.wp P Q a w:=
 (znj hG hg hm hcall hgrow n c hs ec hs' hc).1 fr h ex fr' h' he ρ a w R hF Q hQ
theorem zaN:∀(args:List FV) (k:Nat) (t:Nat) (v:FV),yj (jf k args) t=some v→k≤t∧args[t-k]? =some v
 |[],k,t,v,h=>by cases h
 |u::r,k,t,v,h=>by
  simp only[jf,yj] at h;by_cases e:t=k
  ·rw[zuT e] at h;subst e;obtain rfl:=zuK h;exact⟨zuQ _,by simp⟩
  ·rw[zuV e] at h;obtain⟨q1,q2⟩:=zaN r (k+1) t v h;exact⟨by omega,by rw[show t-k=(t-(k+1))+1 by omega,zvV];exact q2⟩
theorem zjR{ρ:Nat→Ph}{h:LH}{fr:Fr}{a:Act}{w:World}(R:Rel P w0 ρ h w)(hF:FrR ρ h.length N fr a):∀(rs:List ResultVar) (es:List ER) (l:List FV),Q8 P rs=some es→jN fr h es=some l→
 (rs.mapM (m:=Sem) fun r=>match r with
   | .tmp t=>pure (a.tmps.getD t undef)
   | .cell c t=>do loadVar t (←asAddr (a.tmps.getD c undef))).run P w= .ok (l.map (cv ρ)) w∧∀v∈l,wfV ρ h.length v
 |[],es,l,hc,he=>by
  simp only[Q8,zuI] at hc;subst hc;simp only[jN,zuI] at he;subst he;exact⟨rfl,by simp⟩
 |r::rs,es,l,hc,he=>by
  simp only[Q8] at hc;split at hc
  ·rename_i x hx;obtain⟨es',hes,rfl⟩:=zuM.1 hc;cases r with
   |cell c t=>
    obtain⟨⟨g,m⟩,ht,rfl⟩:=zuM.1 hx;simp only[jN,zgE] at he;split at he
    ·rename_i v hv;obtain⟨l',hl,rfl⟩:=zuM.1 he;obtain⟨⟨v',h1⟩,hop,rfl⟩:=zuM.1 hv;obtain⟨r1,r2⟩:=zjR R hF rs es' l' hes hl;obtain⟨ptr,hptr⟩:∃i o,odS fr (.t c)=some (.ptr i o):=by
      simp only[opE] at hop;split at hop
      ·rename_i i o h0;exact⟨i,o,h0⟩
      ·cases hop
     obtain⟨o,hptr⟩:=hptr;have hget:yj fr c=some (.s (.ptr ptr o)):=zdS hptr;obtain⟨q1,q2,q3⟩:=hF.get c _ hget;obtain⟨k1,k2,k3⟩:=zhC R hF (x:= .tmp c) (y:= .t c) ht rfl hop;have e1:a.eval (.tmp c)= .pointer (some ⟨(ρ ptr).blk,(ρ ptr).base+o,none⟩):=(zh hF (x:= .tmp c) (y:= .t c) rfl hptr).1;have e2:a.tmps.getD c undef= .pointer (some ⟨(ρ ptr).blk,(ρ ptr).base+o,none⟩):=q2;rw[e1] at k1;simp only[Instr.loadAt,Instr.sureAddr,zvb,zvp,zu0] at k1;refine⟨?_,fun u hu=> ?_⟩
     ·have e3:asAddr (.pointer (some ⟨(ρ ptr).blk,(ρ ptr).base+o,none⟩))=pure ⟨(ρ ptr).blk,(ρ ptr).base+o,none⟩:=rfl;simp only[List.mapM_cons,zvb,zu0,e2,e3,zvp,k1,zu7];rw[r1];rfl
     ·rcases zu4.1 hu with rfl|hu
      ·exact k2
      ·exact r2 u hu
    ·cases he
   |tmp t=>
    simp only[zso,zuI] at hx;subst hx;simp only[jN,zgE] at he;split at he
    ·rename_i v hv;obtain⟨l',hl,rfl⟩:=zuM.1 he;obtain⟨q1,q2,q3⟩:=hF.get t v hv;obtain⟨r1,r2⟩:=zjR R hF rs es' l' hes hl;refine⟨?_,fun u hu=> ?_⟩
     ·simp only[List.mapM_cons,zvb,zvp,zu0,q2,zu7];rw[r1];rfl
     ·rcases zu4.1 hu with rfl|hu
      ·exact q3
      ·exact r2 u hu
    ·cases he
  ·cases hc
theorem zai{ρ:Nat→Ph}{h:LH}{fr:Fr}{a:Act}{w:World}(R:Rel P w0 ρ h w)(hF:FrR ρ h.length N fr a){fn:Func}{es:List ER}{h':LH}{v:FV}(hc:Q8 P fn.results.toList=some es)(he:qQ (jN fr h es) h=some (v,h')):
 (results fn a.tmps).run P w= .ok (cv ρ v) w∧wfV ρ h.length v∧h'=h:=by
 unfold qQ at he;split at he
 ·rename_i l hl;split at he
  ·rename_i hfl;simp only[zuI,zuL] at he;obtain⟨rfl,rfl⟩:=he;obtain⟨q1,q2⟩:=zjR (P:=P) R hF fn.results.toList es l hc hl;obtain⟨r1,r2⟩:=zaE hfl q2;refine⟨?_,?_,rfl⟩
   ·unfold results;rw[zvb,Array.mapM_eq_mapM_toList];rw[map_eq_pure_bind,zvb];have q1':=q1
    first
     |rw[q1']
     |(have e:∀(r:ResultVar),(match r with
        | .tmp t=>(pure (a.tmps.getD t undef):Sem Value)
        | .cell c t=>do loadVar t (←asAddr (a.tmps.getD c undef)))=(match r with
        | .tmp t=>(pure (a.tmps.getD t undef):Sem Value)
        | .cell c t=>do loadVar t (←asAddr (a.tmps.getD c undef))):=fun _=>rfl
       erw [q1'])
    simp only[zu0,zvp];cases l with
    |nil=>rfl
    |cons x r=>
     cases r with
     |nil=>rfl
     |cons y r=>
      simp only[qI,cv];rw[←r2];simp
   ·cases l with
    |nil=>exact fun v hv=>by cases hv
    |cons x r=>
     cases r with
     |nil=>exact q2 x zv2
     |cons y r=>exact fun v hv=>r1 v hv
  ·cases he
 ·cases he
def XOK(P:Program)(G:Base→Prop)(f:Nat)(e:EF):Prop:=∃(k m:Nat) (g:List FV→LH→Option (List FV×LH)),e=⟨k,.ext k m g,(List.range m).map fun i=> .tmp (k+i)⟩∧
 ∀(w0:Base),G w0→∀(args:List FV) (h:LH) (vs:List FV) (h':LH) (ρ:Nat→Ph) (w:World),args.length=k→g args h=some (vs,h')→vs.length=m→Yd vs=true→Rel P w0 ρ h w→(∀u∈args,wfV ρ h.length u)→
  (∃ fn, P.funcs[f]? = some fn ∧ fn.name ≠ "runtime.NumGoroutine" ∧ fn.body.isSome = true) ∧
  Calls P f (args.map (cv ρ)).toArray w fun e w'=>∃ρ',e= .returned (cv ρ' (qI vs))∧Rel P w0 ρ' h' w'∧Ext h.length ρ ρ'∧h.length≤h'.length∧wfV ρ' h'.length (qI vs)
theorem zew:∀(vs:List FV) (k:Nat),JM (jf k vs) k vs.length=some vs:=by
 have key:∀(vs:List FV) (k:Nat) (fr:Fr),(∀i,i<vs.length→yj fr (k+i)=vs[i]?)→JM fr k vs.length=some vs:=by
  intro vs
  induction vs with
  |nil=>intro k fr _;rfl
  |cons v r ih=>
   intro k fr hf;simp only[zvA,JM];have h0:=hf 0 (by simp);rw[zwe,zvC] at h0;rw[h0];simp only;rw[ih (k+1) fr fun i hi=>by
    have:=hf (i+1) (by simpa using hi);rw[zvV] at this;rw[←this];congr 1;omega]
   rfl
 intro vs k;refine key vs k _ fun i hi=> ?_;clear key
 induction vs generalizing k i with
 |nil=>simp at hi
 |cons v r ih=>
  simp only[jf,yj];cases i with
  |zero=>rw[zuT (by omega)];rfl
  |succ i=>
   rw[zuV (by omega),zvV];have:=ih (k+1) i (by simpa using hi);rw[show k+(i+1)=k+1+i by omega];exact this
theorem zbs:∀(vs:List FV) (k i:Nat),i<vs.length→yj (jf k vs) (k+i)=vs[i]?
 |[],k,i,h=>by simp at h
 |v::r,k,i,h=>by
  simp only[jf,yj];cases i with
  |zero=>rw[zuT (by omega)];rfl
  |succ i=>
   rw[zuV (by omega),zvV];have:=zbs r (k+1) i (by simpa using h);rw[show k+(i+1)=k+1+i by omega];exact this
theorem zg5{fr:Fr}:∀(n i:Nat) (vs:List FV),JM fr i n=some vs→vs.length=n∧∀j,j<n→yj fr (i+j)=vs[j]?
 |0,i,vs,h=>by simp only[JM,zuI] at h;subst h;simp
 |n+1,i,vs,h=>by
  simp only[JM] at h;split at h
  ·rename_i v hv;obtain⟨r,hr,rfl⟩:=zuM.1 h;obtain⟨h1,h2⟩:=zg5 n (i+1) r hr;refine⟨by simp[h1],fun j hj=> ?_⟩;cases j with
   |zero=>exact hv
   |succ j=>rw[zvV,←h2 j (by omega)];congr 1;omega
  ·cases h
theorem zfj{h:LH}:∀(m k i:Nat) (vs rs:List FV),jN (jf k vs) h ((List.range' i m).map fun i=> .tmp (k+i))=some rs→rs.length=m∧∀j,j<m→vs[i+j]? =rs[j]?
 |0,k,i,vs,rs,he=>by simp only[List.range'_zero,zwn,jN,zuI] at he;subst he;simp
 |m+1,k,i,vs,rs,he=>by
  rw[List.range'_succ,zu7] at he;simp only[jN,zgE] at he;split at he
  ·rename_i v hv;obtain⟨r,hr,rfl⟩:=zuM.1 he;obtain⟨h1,h2⟩:=zfj m k (i+1) vs r hr;refine⟨by simp[h1],fun j hj=> ?_⟩;cases j with
   |zero=>
    have hl:i<vs.length:=by
     apply Classical.byContradiction;intro hn;have:∀(vs:List FV) (k i:Nat),vs.length≤i→yj (jf k vs) (k+i)=none:=by
      intro vs
      induction vs with
      |nil=>intro k i _;rfl
      |cons v r ih=>
       intro k i hi;simp only[zvA] at hi;simp only[jf,yj];rw[zuV (by omega)];have:=ih (k+1) (i-1) (by omega);rw[show k+1+(i-1)=k+i by omega] at this;exact this
     rw[this vs k i (by omega)] at hv;cases hv
    rw[zbs vs k i hl] at hv;rw[zwe];exact hv
   |succ j=>rw[zvV,←h2 j (by omega)];congr 1;omega
  ·cases he
theorem zfJ{G:Base→Prop}(hG:JI P G)(hm:P.follows .mixedOrders=true){C:Nat→Option EF}(hC:∀f e,C f=some e→(∃hs,jr P f hs=some e)∨XOK P G f e):∀(n:Nat) (w0:Base),G w0→ZE P w0 (jc C n)
 |0,w0,hg=>fun f args h v h' ρ w he=>by cases he
 |n+1,w0,hg=>fun f args h v h' ρ w he R hwf=>by
  simp only[jc] at he;split at he
  ·cases he
  ·rename_i e hf;rcases hC f e hf with⟨hs,hcF⟩|⟨k,m,g,rfl,hx⟩
   rotate_left
   ·--known by what it comes to
    split at he
    ·rename_i hle;simp only[zp,zlM] at he;cases hag:JM (jf 0 args) 0 k with
     |none=>rw[hag] at he;simp at he
     |some as=>
      rw[hag] at he;simp only[zwv] at he;obtain⟨l1,l2⟩:=zg5 k 0 as hag;have has:as=args:=by
       refine zv5 fun j=> ?_;rcases zwp j k with hj|hj
       ·rw[←l2 j hj];have hja:j<args.length:=by
         apply Classical.byContradiction;intro hn;have h1:=l2 j hj;rw[zvv] at h1;have h2:yj (jf 0 args) j=none:=by
          cases hq:yj (jf 0 args) j with
          |none=>rfl
          |some u=>
           have:=(zaN args 0 j u hq).2;rw[Nat.sub_zero] at this;have:=(zuN.1 this).1;exact absurd this hn
         rw[h2] at h1;have:j<as.length:=by omega
         rw[zuY this] at h1;cases h1
        have:=zbs args 0 j hja;rw[this]
       ·rw[zvU (by omega),zvU (by simp only at hle;omega)]
      subst has;split at he
      ·rename_i vs h1 hgr;split at hgr
       ·rename_i vs2 h2 hg2;split at hgr
        ·rename_i hm2;split at hgr
         ·rename_i hl;simp only[zuI,zuL,true_and] at hgr;obtain⟨rfl,rfl⟩:=hgr;unfold qQ at he;split at he
          ·rename_i rs hrs;split at he
           ·rename_i hfl;simp only[zuI,zuL] at he;obtain⟨rfl,rfl⟩:=he;have hrs':jN (jf k vs2) h2 ((List.range' 0 m).map fun i=> .tmp (k+i))=some rs:=by
             rw[←List.range_eq_range'];exact hrs
            obtain⟨r1,r2⟩:=zfj m k 0 vs2 rs hrs';have ers:rs=vs2:=by
             refine zv5 fun j=> ?_;rcases zwp j m with hj|hj
             ·rw[←r2 j hj,zvv]
             ·rw[zvU (by omega),zvU (by omega)]
            subst ers;exact hx w0 hg _ h rs h2 ρ w l1 hg2 hm2 hfl R hwf
           ·cases he
          ·cases he
         ·cases hgr
        ·cases hgr
       ·cases hgr
      ·rename_i vs h1 hgr;split at hgr
       ·split at hgr
        ·split at hgr<;>cases hgr
        ·cases hgr
       ·cases hgr
      ·cases he
    ·cases he
   unfold jr at hcF;split at hcF
   ·rename_i fn hfn;split at hcF
    ·rename_i c hb;split at hcF
     ·rename_i hname;split at hcF
      ·rename_i x r hx hr;obtain rfl:=zuK hcF;split at he
       ·rename_i hle;refine⟨⟨fn,hfn,by simpa using hname,by rw[hb];rfl⟩,?_⟩;refine calls_of_wp hfn hb ?_;have hF0:FrR ρ h.length fn.ntmps (jf 0 args) {tmps:=(args.map (cv ρ)).toArray++Array.replicate (fn.ntmps-(args.map (cv ρ)).toArray.size) undef,defers:=[]}:=by
         refine⟨?_,rfl,fun t u hu=> ?_⟩
         ·simp only[zxe,Array.size_replicate,zwh,zvc];simp only at hle;omega
         ·obtain⟨q1,q2⟩:=zaN args 0 t u hu;rw[Nat.sub_zero] at q2;have hlt:=(zuN.1 q2).1;simp only at hle;refine⟨by omega,?_,hwf u (zvy q2)⟩;rw[zvP,zwQ (by simpa using hlt)];simp[q2]
        split at he
        ·rename_i fr1 h1 he1;refine zct hG hg hm (zfJ hG hm hC n) (ZG C n) n c hs x.1 x.2 hx _ h _ fr1 h1 he1 ρ _ w R hF0 _ (fun ρ1 a1 w1 q1 q2 q3 q4=> ?_);obtain⟨r1,r2,rfl⟩:=zai (P:=P) q1 q2 hr he;exact⟨q2.defers,_,r1,ρ1,rfl,q1,q3,q4,r2⟩
        ·rename_i fr1 h1 he1;refine zct hG hg hm (zfJ hG hm hC n) (ZG C n) n c hs x.1 x.2 hx _ h _ fr1 h1 he1 ρ _ w R hF0 _ (fun ρ1 a1 w1 q1 q2 q3 q4=> ?_);obtain⟨r1,r2,rfl⟩:=zai (P:=P) q1 q2 hr he;exact⟨q2.defers,_,r1,ρ1,rfl,q1,q3,q4,r2⟩
        ·cases he
       ·cases he
      ·cases hcF
     ·cases hcF
    ·cases hcF
   ·cases hcF
end
end
end Go.Proofs.YtdmcfjkgopmlgaaGreatDoor.Ev
namespace Go.Proofs.YtdmcfjkgopmlgaaGreatDoor.Ev
open Go Go.RowKit
open Classical in
noncomputable def lim{α:Type}(f:Nat→Option α):Option α:=
 if h:∃n,(f n).isSome=true then f h.choose else none
theorem J5{α:Type}{f:Nat→Option α}{r:α}(h:lim f=some r):∃n,f n=some r:=by
 unfold lim at h;split at h
 ·rename_i hx;exact⟨_,h⟩
 ·cases h
theorem zgk{α:Type}{f:Nat→Option α}(hm:∀n r,f n=some r→f (n+1)=some r){n:Nat}{r:α}(h:f n=some r):lim f=some r:=by
 have hm':∀k n r,f n=some r→f (n+k)=some r:=by
  intro k
  induction k with
  |zero=>intro n r h;exact h
  |succ k ih=>intro n r h;exact hm _ _ (ih n r h)
 have hx:∃n,(f n).isSome=true:=⟨n,by rw[h];rfl⟩
 unfold lim;rw[dif_pos hx];obtain⟨r',hr'⟩:=zv8.1 hx.choose_spec;have a:=hm' n _ _ hr';have b:=hm' hx.choose _ _ h;rw[zxS] at b;rw[hr',←a,b]
theorem zaa{keep:List Nat}{fr:Fr}{n:Nat}(hn:n∈keep):yj (zk keep fr) n=yj fr n:=by
 induction keep with
 |nil=>cases hn
 |cons k r ih=>
  simp only[zk,zu7,yj];by_cases e:n=k
  ·rw[zuT e,e]
  ·rw[zuV e];exact ih ((zu4.1 hn).resolve_left e)
theorem zhw(keep:List Nat)(fr:Fr):zk keep (zk keep fr)=zk keep fr:=by
 show keep.map _=keep.map _;exact zvz fun n hn=>by rw[zaa hn]
theorem zdG{body:Fr→LH→Out}{keep:List Nat}:∀(n:Nat) (fr:Fr) (h:LH),jY body keep n (zk keep fr) h=jY body keep n fr h
 |0,fr,h=>rfl
 |n+1,fr,h=>by simp only[jY,zhw]
noncomputable def zhD(body:Fr→LH→Out)(keep:List Nat)(fr:Fr)(h:LH):Out:=lim fun n=>jY body keep n fr h
mutual
noncomputable def zB(call:zU):EC→Fr→LH→Out
 | .skip,fr,h=>some (.normal,fr,h)
 | .label _,fr,h=>some (.normal,fr,h)
 | .ops l keep,fr,h=>(jU call l fr h).map fun x=>(.normal,zk keep x.1,x.2)
 | .draw l ps keep,fr,h=>(Zv call l ps fr h).map fun x=>(.normal,zk keep x.1,x.2)
 | .seq a b,fr,h=>
   match zB call a fr h with
   |some (.normal,fr',h')=>zB call b fr' h'
   |r=>r
 | .cond c a b,fr,h=>
   match odS fr c with
   |some (.bool t)=>if t then zB call a fr h else zB call b fr h
   |_=>none
 | .block id b,fr,h=>
   match zB call b fr h with
   |some (.exit id',fr',h')=>if id'=id then some (.normal,fr',h') else some (.exit id',fr',h')
   |r=>r
 | .loop keep b,fr,h=>zhD (zB call b) keep (zk keep fr) h
 | .exit id keep,fr,h=>some (.exit id,zk keep fr,h)
 | .ret keep,fr,h=>some (.ret,zk keep fr,h)
 | .goto l keep,fr,h=>some (.goto l,zk keep fr,h)
 | .scope b,fr,h=>lim fun n=>yb (zY call b) (Yr b) n (zB call b fr h)
 | .ext k m g,fr,h=>zlM k m g fr h
noncomputable def zY(call:zU):EC→Nat→Fr→LH→Out
 | .seq a b,l,fr,h=>
   if Yr a l then match zY call a l fr h with
   |some (.normal,fr',h')=>zB call b fr' h'
   |r=>r
   else zY call b l fr h
 | .label l',l,fr,h=>if l'==l then some (.normal,fr,h) else none
 |_,_,_,_=>none
end
theorem Qj{at1 at2:Nat→Fr→LH→Out}(ha:∀l fr h r,at1 l fr h=some r→at2 l fr h=some r)(has:Nat→Bool):∀(n m:Nat),n≤m→∀(x:Ex×Fr×LH) (r:Ex×Fr×LH),yb at1 has n (some x)=some r→yb at2 has m (some x)=some r:=by
 intro n
 induction n with
 |zero=>
  intro m hm x r he;unfold yb at he⊢;split at he
  ·rename_i l fr h e;obtain rfl:=zuK e;split at he
   ·cases he
   ·rename_i hl;simp only[hl,zvg,if_false];exact he
  ·exact he
 |succ n ih=>
  intro m hm x r he;unfold yb at he⊢;split at he
  ·rename_i l fr h e;obtain rfl:=zuK e;split at he
   ·rename_i hl;simp only[hl,if_true];cases m with
    |zero=>omega
    |succ m=>
     cases hr:at1 l fr h with
     |none=>rw[hr] at he;unfold yb at he;cases he
     |some y=>
      rw[hr] at he;simp only[ha _ _ _ _ hr];exact ih m (by omega) y r he
   ·rename_i hl;simp only[hl,zvg,if_false];exact he
  ·exact he
noncomputable def zv(C:Nat→Option EF):zU:=fun f args h=>lim fun n=>jc C n f args h
def qx(c c':zU):Prop:=∀f args h r,c f args h=some r→c' f args h=some r
theorem Jl{c c':zU}(hc:qx c c'){fr:Fr}{h:LH}{o:EO}{r:FV×LH}(he:zK c fr h o=some r):zK c' fr h o=some r:=by
 unfold zK at he⊢;split at he
 ·rename_i hi;rw[zuT hi];split at he
  ·exact hc _ _ _ _ he
  ·cases he
 ·rename_i hi;rw[zuV hi];exact he
theorem zbG{c c':zU}(hc:qx c c'):∀(l:List EG) (fr:Fr) (h:LH) (r:Fr×LH),jU c l fr h=some r→jU c' l fr h=some r
 |[],fr,h,r,he=>he
 |g::l,fr,h,r,he=>by
  simp only[jU] at he⊢;split at he
  ·rename_i hw;split at he
   ·rename_i v h1 hs;rw[Jl hc hs];exact zbG hc l _ _ r he
   ·cases he
  ·rename_i hw;exact zbG hc l _ _ r he
  ·cases he
theorem Qq{c c':zU}(hc:qx c c'):∀(l:List EG) (fr:Fr) (h:LH) (r:List (Option TE)×Fr×LH),y8 c l fr h=some r→y8 c' l fr h=some r
 |[],fr,h,r,he=>he
 |g::l,fr,h,r,he=>by
  simp only[y8] at he⊢;split at he
  ·rename_i hw;split at he
   ·rename_i v h1 hs;rw[Jl hc hs];obtain⟨x,hx,rfl⟩:=zuM.1 he;simp only[Qq hc l _ _ x hx,zvf]
   ·cases he
  ·rename_i hw;obtain⟨x,hx,rfl⟩:=zuM.1 he;simp only[Qq hc l _ _ x hx,zvf]
  ·cases he
theorem zh0{c c':zU}(hc:qx c c'){tr:List (Option TE)}{p:Nat×Nat}(h:j9 c tr p):j9 c' tr p:=by
 unfold j9 at h⊢;split at h
 ·rename_i x y h1 h2;exact h.imp id fun h=>h.imp (fun⟨a,b,c⟩=>⟨Jl hc a,Jl hc b,c⟩) id
 ·trivial
 ·exact h.elim
theorem zaV{c c':zU}(hc:qx c c'){tr:List (Option TE)}:∀{l:List (Nat×Nat)},yd c tr l→yd c' tr l
 |[],_=>trivial
 |p::l,h=>⟨zh0 hc h.1,zaV hc h.2⟩
theorem zi0{c c':zU}(hc:qx c c'){l:List EG}{ps:List (Nat×Nat)}{fr:Fr}{h:LH}{r:Fr×LH}(he:Zv c l ps fr h=some r):Zv c' l ps fr h=some r:=by
 unfold Zv at he⊢;split at he
 ·rename_i tr fr1 h1 ht;rw[Qq hc _ _ _ _ ht];split at he
  ·rename_i hp;simp only;rw[zuT (zaV hc hp)];exact he
  ·cases he
 ·cases he
theorem ZO{b b':Fr→LH→Out}(hb:∀fr h r,b fr h=some r→b' fr h=some r){keep:List Nat}:∀{n n':Nat},n≤n'→∀{fr:Fr} {h:LH} {r:Ex×Fr×LH},jY b keep n fr h=some r→jY b' keep n' fr h=some r
 |0,_,_,fr,h,r,he=>by cases he
 |n+1,0,hn,_,_,_,_=>by omega
 |n+1,n'+1,hn,fr,h,r,he=>by
  simp only[jY] at he⊢;split at he
  ·rename_i fr' h' h1;rw[hb _ _ _ h1];exact ZO hb (by omega) he
  ·rename_i hne;rw[hb _ _ _ he];split
   ·rename_i hq;exact absurd (he.trans hq) (hne _ _)
   ·rfl
theorem zha{c c':zU}(hc:qx c c'){n n':Nat}(hn:n≤n'):∀(e:EC),(∀(fr:Fr) (h:LH) (r:Ex×Fr×LH),zp c n e fr h=some r→zp c' n' e fr h=some r)∧∀(l:Nat) (fr:Fr) (h:LH) (r:Ex×Fr×LH),zL c n e l fr h=some r→zL c' n' e l fr h=some r:=by
 intro e
 induction e with
 |skip=>refine⟨?_,fun l fr h r he=>by simp only[zL] at he;cases he⟩;intro fr h r he;simp only[zp] at he⊢;exact he
 |label l'=>
  refine⟨fun fr h r he=> ?_,fun l fr h r he=> ?_⟩
  ·simp only[zp] at he⊢;exact he
  ·simp only[zL] at he⊢;exact he
 |ops l keep=>
  refine⟨?_,fun l fr h r he=>by simp only[zL] at he;cases he⟩;intro fr h r he;simp only[zp] at he⊢;obtain⟨x,hx,rfl⟩:=zuM.1 he;rw[zbG hc _ _ _ _ hx];rfl
 |draw l ps keep=>
  refine⟨?_,fun l fr h r he=>by simp only[zL] at he;cases he⟩;intro fr h r he;simp only[zp] at he⊢;obtain⟨x,hx,rfl⟩:=zuM.1 he;rw[zi0 hc hx];rfl
 |seq a b iha ihb=>
  refine⟨fun fr h r he=> ?_,fun l fr h r he=> ?_⟩
  ·simp only[zp] at he⊢;split at he
   ·rename_i fr' h' h1;rw[iha.1 _ _ _ h1];exact ihb.1 _ _ _ he
   ·rename_i hne;rw[iha.1 _ _ _ he];split
    ·rename_i hq;exact absurd (he.trans hq) (hne _ _)
    ·rfl
  ·simp only[zL] at he⊢;split at he
   ·rename_i hl;rw[zuT hl];split at he
    ·rename_i fr' h' h1;rw[iha.2 _ _ _ _ h1];exact ihb.1 _ _ _ he
    ·rename_i hne;rw[iha.2 _ _ _ _ he];split
     ·rename_i hq;exact absurd (he.trans hq) (hne _ _)
     ·rfl
   ·rename_i hl;rw[zuV hl];exact ihb.2 _ _ _ _ he
 |cond x a b iha ihb=>
  refine⟨?_,fun l fr h r he=>by simp only[zL] at he;cases he⟩;intro fr h r he;simp only[zp] at he⊢;split at he
  ·rename_i t ht;cases t with
   |true=>exact iha.1 _ _ _ he
   |false=>exact ihb.1 _ _ _ he
  ·cases he
 |block id b ih=>
  refine⟨?_,fun l fr h r he=>by simp only[zL] at he;cases he⟩;intro fr h r he;simp only[zp] at he⊢;split at he
  ·rename_i id' fr' h' h1;rw[ih.1 _ _ _ h1];exact he
  ·rename_i hne;rw[ih.1 _ _ _ he];split
   ·rename_i hq;exact absurd (he.trans hq) (hne _ _ _)
   ·rfl
 |loop keep b ih=>
  refine⟨?_,fun l fr h r he=>by simp only[zL] at he;cases he⟩;intro fr h r he;simp only[zp] at he⊢;exact ZO ih.1 hn he
 |exit id keep=>refine⟨?_,fun l fr h r he=>by simp only[zL] at he;cases he⟩;intro fr h r he;simp only[zp] at he⊢;exact he
 |ret keep=>refine⟨?_,fun l fr h r he=>by simp only[zL] at he;cases he⟩;intro fr h r he;simp only[zp] at he⊢;exact he
 |goto l keep=>refine⟨?_,fun l fr h r he=>by simp only[zL] at he;cases he⟩;intro fr h r he;simp only[zp] at he⊢;exact he
 |scope b ih=>
  refine⟨?_,fun l fr h r he=>by simp only[zL] at he;cases he⟩;intro fr h r he;simp only[zp] at he⊢;cases hr:zp c n b fr h with
  |none=>rw[hr] at he;unfold yb at he;cases he
  |some y=>
   rw[hr] at he;rw[ih.1 _ _ _ hr];exact Qj ih.2 _ n n' hn y r he
 |ext k m f=>refine⟨?_,fun l fr h r he=>by simp only[zL] at he;cases he⟩;intro fr h r he;simp only[zp] at he⊢;exact he
theorem zc2{c c':zU}(hc:qx c c'){n n':Nat}(hn:n≤n')(e:EC)(fr:Fr)(h:LH)(r:Ex×Fr×LH)(he:zp c n e fr h=some r):zp c' n' e fr h=some r:=(zha hc hn e).1 fr h r he
theorem YZ(C:Nat→Option EF):∀n,qx (jc C n) (jc C (n+1))
 |0=>fun f args h r he=>by cases he
 |n+1=>fun f args h r he=>by
  rw[jc] at he⊢;split at he
  ·cases he
  ·rename_i e hf;split at he
   ·rename_i hle;rw[zuT hle];split at he
    ·rename_i fr h1 h2;rw[zc2 (YZ C n) (zxc n) _ _ _ _ h2];exact he
    ·rename_i fr h1 h2;rw[zc2 (YZ C n) (zxc n) _ _ _ _ h2];exact he
    ·cases he
   ·cases he
theorem qx.trans{a b c:zU}(h1:qx a b)(h2:qx b c):qx a c:=fun f args h r he=>h2 _ _ _ _ (h1 _ _ _ _ he)
theorem znd(C:Nat→Option EF){n m:Nat}(h:n≤m):qx (jc C n) (jc C m):=by
 induction h with
 |refl=>exact fun _ _ _ _ h=>h
 |step _ ih=>exact ih.trans (YZ C _)
theorem zcX{C:Nat→Option EF}{f:Nat}{args:List FV}{h:LH}{r:FV×LH}(he:zv C f args h=some r):∃n,∀m,n≤m→jc C m f args h=some r:=by obtain⟨n,hn⟩:=J5 he;exact⟨n,fun m hm=>znd C hm _ _ _ _ hn⟩
theorem zg8{C:Nat→Option EF}{f:Nat}{args:List FV}{h:LH}{r:FV×LH}{n:Nat}(he:jc C n f args h=some r):zv C f args h=some r:=
 zgk (fun n r h=>YZ C n _ _ _ _ h) he
section
variable {C:Nat→Option EF}
theorem Jk{fr:Fr}{h:LH}{o:EO}{r:FV×LH}(he:zK (zv C) fr h o=some r):∃n,∀m,n≤m→zK (jc C m) fr h o=some r:=by
 unfold zK at he⊢;split at he
 ·rename_i hi;split at he
  ·rename_i f args hq;obtain⟨n,hn⟩:=zcX he;exact⟨n,fun m hm=>by rw[zuT hi,hn m hm]⟩
  ·cases he
 ·rename_i hi;exact⟨0,fun m _=>by rw[zuV hi];exact he⟩
theorem zbF:∀(l:List EG) (fr:Fr) (h:LH) (r:Fr×LH),jU (zv C) l fr h=some r→∃n,∀m,n≤m→jU (jc C m) l fr h=some r
 |[],fr,h,r,he=>⟨0,fun _ _=>he⟩
 |g::l,fr,h,r,he=>by
  simp only[jU] at he⊢;split at he
  ·rename_i hw;split at he
   ·rename_i v h1 hs;obtain⟨n1,q1⟩:=Jk hs;obtain⟨n2,q2⟩:=zbF l _ _ r he;exact⟨max n1 n2,fun m hm=>by rw[q1 m (by omega)];exact q2 m (by omega)⟩
   ·cases he
  ·rename_i hw;exact zbF l _ _ r he
  ·cases he
theorem Qp:∀(l:List EG) (fr:Fr) (h:LH) (r:List (Option TE)×Fr×LH),y8 (zv C) l fr h=some r→∃n,∀m,n≤m→y8 (jc C m) l fr h=some r
 |[],fr,h,r,he=>⟨0,fun _ _=>he⟩
 |g::l,fr,h,r,he=>by
  simp only[y8] at he⊢;split at he
  ·rename_i hw;split at he
   ·rename_i v h1 hs;obtain⟨x,hx,rfl⟩:=zuM.1 he;obtain⟨n1,q1⟩:=Jk hs;obtain⟨n2,q2⟩:=Qp l _ _ x hx;exact⟨max n1 n2,fun m hm=>by rw[q1 m (by omega)];simp only[q2 m (by omega),zvf]⟩
   ·cases he
  ·rename_i hw;obtain⟨x,hx,rfl⟩:=zuM.1 he;obtain⟨n2,q2⟩:=Qp l _ _ x hx;exact⟨n2,fun m hm=>by simp only[q2 m hm,zvf]⟩
  ·cases he
theorem zhZ{tr:List (Option TE)}{p:Nat×Nat}(h:j9 (zv C) tr p):∃n,∀m,n≤m→j9 (jc C m) tr p:=by
 unfold j9 at h⊢;split at h
 ·rename_i x y h1 h2;rcases h with h|⟨a,b,c⟩|h
  ·exact⟨0,fun _ _=> .inl h⟩
  ·obtain⟨n1,q1⟩:=Jk a;obtain⟨n2,q2⟩:=Jk b;exact⟨max n1 n2,fun m hm=> .inr (.inl ⟨q1 m (by omega),q2 m (by omega),c⟩)⟩
  ·exact⟨0,fun _ _=> .inr (.inr h)⟩
 ·exact⟨0,fun _ _=>trivial⟩
 ·exact h.elim
theorem zaU{tr:List (Option TE)}:∀{l:List (Nat×Nat)},yd (zv C) tr l→∃n,∀m,n≤m→yd (jc C m) tr l
 |[],_=>⟨0,fun _ _=>trivial⟩
 |p::l,h=>by obtain⟨n1,q1⟩:=zhZ h.1;obtain⟨n2,q2⟩:=zaU h.2;exact⟨max n1 n2,fun m hm=>⟨q1 m (by omega),q2 m (by omega)⟩⟩
theorem ziZ{l:List EG}{ps:List (Nat×Nat)}{fr:Fr}{h:LH}{r:Fr×LH}(he:Zv (zv C) l ps fr h=some r):∃n,∀m,n≤m→Zv (jc C m) l ps fr h=some r:=by
 unfold Zv at he;split at he
 ·rename_i tr fr1 h1 ht;split at he
  ·rename_i hp;obtain⟨n1,q1⟩:=Qp _ _ _ _ ht;obtain⟨n2,q2⟩:=zaU hp;refine⟨max n1 n2,fun m hm=> ?_⟩;unfold Zv;rw[q1 m (by omega)];simp only;rw[zuT (q2 m (by omega))];exact he
  ·cases he
 ·cases he
theorem zhb:∀(e:EC),(∀(fr:Fr) (h:LH) (r:Ex×Fr×LH),zB (zv C) e fr h=some r→∃n,∀m,n≤m→zp (jc C m) m e fr h=some r)∧∀(l:Nat) (fr:Fr) (h:LH) (r:Ex×Fr×LH),zY (zv C) e l fr h=some r→∃n,∀m,n≤m→zL (jc C m) m e l fr h=some r:=by
 intro e
 induction e with
 |skip=>refine⟨?_,fun l fr h r he=>by simp only[zY] at he;cases he⟩;intro fr h r he;simp only[zB] at he;exact⟨0,fun _ _=>by simp only[zp];exact he⟩
 |label l'=>
  refine⟨fun fr h r he=> ?_,fun l fr h r he=> ?_⟩
  ·simp only[zB] at he;exact⟨0,fun _ _=>by simp only[zp];exact he⟩
  ·simp only[zY] at he;exact⟨0,fun _ _=>by simp only[zL];exact he⟩
 |ops l keep=>
  refine⟨?_,fun l fr h r he=>by simp only[zY] at he;cases he⟩;intro fr h r he;simp only[zB] at he;obtain⟨x,hx,rfl⟩:=zuM.1 he;obtain⟨n,hn⟩:=zbF _ _ _ _ hx;exact⟨n,fun m hm=>by simp only[zp,hn m hm,zvf]⟩
 |draw l ps keep=>
  refine⟨?_,fun l fr h r he=>by simp only[zY] at he;cases he⟩;intro fr h r he;simp only[zB] at he;obtain⟨x,hx,rfl⟩:=zuM.1 he;obtain⟨n,hn⟩:=ziZ hx;exact⟨n,fun m hm=>by simp only[zp,hn m hm,zvf]⟩
 |seq a b iha ihb=>
  refine⟨fun fr h r he=> ?_,fun l fr h r he=> ?_⟩
  ·simp only[zB] at he;split at he
   ·rename_i fr' h' h1;obtain⟨n1,q1⟩:=iha.1 _ _ _ h1;obtain⟨n2,q2⟩:=ihb.1 _ _ _ he;exact⟨max n1 n2,fun m hm=>by simp only[zp,q1 m (by omega)];exact q2 m (by omega)⟩
   ·rename_i hne;obtain⟨n1,q1⟩:=iha.1 _ _ _ he;refine⟨n1,fun m hm=> ?_⟩;simp only[zp];rw[q1 m hm];split
    ·rename_i hq;exact absurd (he.trans hq) (hne _ _)
    ·rfl
  ·simp only[zY] at he;split at he
   ·rename_i hl;split at he
    ·rename_i fr' h' h1;obtain⟨n1,q1⟩:=iha.2 _ _ _ _ h1;obtain⟨n2,q2⟩:=ihb.1 _ _ _ he;exact⟨max n1 n2,fun m hm=>by simp only[zL,zuT hl,q1 m (by omega)];exact q2 m (by omega)⟩
    ·rename_i hne;obtain⟨n1,q1⟩:=iha.2 _ _ _ _ he;refine⟨n1,fun m hm=> ?_⟩;simp only[zL,zuT hl];rw[q1 m hm];split
     ·rename_i hq;exact absurd (he.trans hq) (hne _ _)
     ·rfl
   ·rename_i hl;obtain⟨n1,q1⟩:=ihb.2 _ _ _ _ he;exact⟨n1,fun m hm=>by simp only[zL,zuV hl];exact q1 m hm⟩
 |cond x a b iha ihb=>
  refine⟨?_,fun l fr h r he=>by simp only[zY] at he;cases he⟩;intro fr h r he;simp only[zB] at he;split at he
  ·rename_i t ht;cases t with
   |true=>
    obtain⟨n,hn⟩:=iha.1 _ _ _ he;exact⟨n,fun m hm=>by simp only[zp,ht];exact hn m hm⟩
   |false=>
    obtain⟨n,hn⟩:=ihb.1 _ _ _ he;exact⟨n,fun m hm=>by simp only[zp,ht];exact hn m hm⟩
  ·cases he
 |block id b ih=>
  refine⟨?_,fun l fr h r he=>by simp only[zY] at he;cases he⟩;intro fr h r he;simp only[zB] at he;split at he
  ·rename_i id' fr' h' h1;obtain⟨n,hn⟩:=ih.1 _ _ _ h1;exact⟨n,fun m hm=>by simp only[zp,hn m hm];exact he⟩
  ·rename_i hne;obtain⟨n,hn⟩:=ih.1 _ _ _ he;refine⟨n,fun m hm=> ?_⟩;simp only[zp];rw[hn m hm];split
   ·rename_i hq;exact absurd (he.trans hq) (hne _ _ _)
   ·rfl
 |loop keep b ih=>
  refine⟨?_,fun l fr h r he=>by simp only[zY] at he;cases he⟩;intro fr h r he;simp only[zB] at he;obtain⟨k,hk⟩:=J5 he;rw[zdG] at hk;have key:∀(k:Nat) (fr:Fr) (h:LH),jY (zB (zv C) b) keep k fr h=some r→∃n,∀m,n≤m→jY (zp (jc C m) m b) keep k fr h=some r:=by
   intro k
   induction k with
   |zero=>intro fr h he;cases he
   |succ k ihk=>
    intro fr h he;simp only[jY] at he;split at he
    ·rename_i fr' h' h1;obtain⟨n1,q1⟩:=ih.1 _ _ _ h1;obtain⟨n2,q2⟩:=ihk _ _ he;exact⟨max n1 n2,fun m hm=>by simp only[jY,q1 m (by omega)];exact q2 m (by omega)⟩
    ·rename_i hne;obtain⟨n1,q1⟩:=ih.1 _ _ _ he;refine⟨n1,fun m hm=> ?_⟩;simp only[jY];rw[q1 m hm];split
     ·rename_i hq;exact absurd (he.trans hq) (hne _ _)
     ·rfl
  obtain⟨n,hn⟩:=key k fr h hk;refine⟨max n k,fun m hm=> ?_⟩;simp only[zp];exact ZO (fun _ _ _ h=>h) (by omega) (hn m (by omega))
 |exit id keep=>refine⟨?_,fun l fr h r he=>by simp only[zY] at he;cases he⟩;intro fr h r he;simp only[zB] at he;exact⟨0,fun _ _=>by simp only[zp];exact he⟩
 |ret keep=>refine⟨?_,fun l fr h r he=>by simp only[zY] at he;cases he⟩;intro fr h r he;simp only[zB] at he;exact⟨0,fun _ _=>by simp only[zp];exact he⟩
 |goto l keep=>refine⟨?_,fun l fr h r he=>by simp only[zY] at he;cases he⟩;intro fr h r he;simp only[zB] at he;exact⟨0,fun _ _=>by simp only[zp];exact he⟩
 |scope b ih=>
  refine⟨?_,fun l fr h r he=>by simp only[zY] at he;cases he⟩;intro fr h r he;simp only[zB] at he;obtain⟨k,hk⟩:=J5 he;cases hr:zB (zv C) b fr h with
  |none=>rw[hr] at hk;unfold yb at hk;cases hk
  |some y=>
   rw[hr] at hk;obtain⟨n0,q0⟩:=ih.1 _ _ _ hr;have key:∀(k:Nat) (y:Ex×Fr×LH),yb (zY (zv C) b) (Yr b) k (some y)=some r→∃n,∀m,n≤m→yb (zL (jc C m) m b) (Yr b) k (some y)=some r:=by
    intro k
    induction k with
    |zero=>
     intro y hy;refine⟨0,fun m _=> ?_⟩;unfold yb at hy⊢;exact hy
    |succ k ihk=>
     intro y hy;unfold yb at hy;split at hy
     ·rename_i l fr1 h1 e;obtain rfl:=zuK e;split at hy
      ·rename_i hl;cases ht:zY (zv C) b l fr1 h1 with
       |none=>rw[ht] at hy;unfold yb at hy;cases hy
       |some z=>
        rw[ht] at hy;obtain⟨n1,q1⟩:=ih.2 _ _ _ _ ht;obtain⟨n2,q2⟩:=ihk z hy;refine⟨max n1 n2,fun m hm=> ?_⟩;unfold yb;simp only[hl,if_true,q1 m (by omega)];exact q2 m (by omega)
      ·rename_i hl;refine⟨0,fun m _=> ?_⟩;unfold yb;simp only[hl,zvg,if_false];exact hy
     ·rename_i hne;refine⟨0,fun m _=> ?_⟩;unfold yb;split
      ·rename_i l fr1 h1 e;exact absurd e (hne l fr1 h1)
      ·exact hy
   obtain⟨n1,q1⟩:=key k y hk;refine⟨max k (max n0 n1),fun m hm=> ?_⟩;simp only[zp,q0 m (by omega)];exact Qj (fun _ _ _ _ h=>h) _ k m (by omega) y r (q1 m (by omega))
 |ext k m f=>refine⟨?_,fun l fr h r he=>by simp only[zY] at he;cases he⟩;intro fr h r he;simp only[zB] at he;exact⟨0,fun _ _=>by simp only[zp];exact he⟩
theorem zc3(e:EC)(fr:Fr)(h:LH)(r:Ex×Fr×LH)(he:zB (zv C) e fr h=some r):∃n,∀m,n≤m→zp (jc C m) m e fr h=some r:=(zhb e).1 fr h r he
noncomputable def zg7(C:Nat→Option EF)(e:EF)(args:List FV)(h:LH):Option (FV×LH):=
 match zB (zv C) e.body (jf 0 args) h with
 |some (.normal,fr,h')=>qQ (jN fr h' e.res) h'
 |some (.ret,fr,h')=>qQ (jN fr h' e.res) h'
 |_=>none
theorem JN{f:Nat}{e:EF}(hf:C f=some e){args:List FV}(hl:args.length≤e.slots){h:LH}{r:FV×LH}(he:zg7 C e args h=some r):zv C f args h=some r:=by
 unfold zg7 at he;split at he
 ·rename_i fr h' h1;obtain⟨n,hn⟩:=zc3 _ _ _ _ h1;refine zg8 (n:=n+1) ?_;simp only[jc,hf,zuT hl,hn n (zuQ _)];exact he
 ·rename_i fr h' h1;obtain⟨n,hn⟩:=zc3 _ _ _ _ h1;refine zg8 (n:=n+1) ?_;simp only[jc,hf,zuT hl,hn n (zuQ _)];exact he
 ·cases he
theorem zdH{body:Fr→LH→Out}{keep:List Nat}{fr fr':Fr}{h h':LH}(hk:zk keep fr=fr)(hb:body fr h=some (.normal,fr',h')){r:Ex×Fr×LH}(hr:zhD body keep (zk keep fr') h'=some r):zhD body keep fr h=some r:=by obtain⟨n,hn⟩:=J5 hr;rw[zdG] at hn;refine zgk (fun n r he=>ZO (fun _ _ _ h=>h) (zxc n) he) (n:=n+1) ?_;simp only[jY,hk,hb];exact hn
theorem q8{body:Fr→LH→Out}{keep:List Nat}{fr:Fr}{h:LH}{r:Ex×Fr×LH}(hk:zk keep fr=fr)(hb:body fr h=some r)(hne:r.1≠.normal):zhD body keep fr h=some r:=by
 refine zgk (fun n r he=>ZO (fun _ _ _ h=>h) (zxc n) he) (n:=1) ?_;obtain⟨e,fr',h'⟩:=r;cases e with
 |normal=>exact absurd rfl hne
 |exit id=>simp only[jY,hk,hb]
 |goto l=>simp only[jY,hk,hb]
 |ret=>simp only[jY,hk,hb]
theorem zcW{P:Program}{G:Base→Prop}(hG:JI P G){w0:Base}(hg:G w0)(hm:P.follows .mixedOrders=true)(hC:∀f e,C f=some e→(∃hs,jr P f hs=some e)∨XOK P G f e):ZE P w0 (zv C):=
 fun f args h v h' ρ w he R hw=>by obtain⟨n,hn⟩:=J5 he;exact zfJ hG hm hC n w0 hg f args h v h' ρ w hn R hw
def W0(w:World):Base:=⟨w,w.heap.size,fun _=>False,false⟩
theorem zqJ{i p o n:Nat}:zbv (.sl i p o n)=some n:=rfl
theorem zl4:zbv .nils=some 0:=rfl
theorem znV{i p o:Nat}:zbv (.sl0 i p o)=some 0:=rfl
theorem zj1{P:Program}:JI P (fun _=>True):=fun _ _ _ _ _ _ _=>trivial
theorem calls_trueG{P:Program}{G:Base→Prop}(hG:JI P G)(hm:P.follows .mixedOrders=true)(hC:∀f e,C f=some e→(∃hs,jr P f hs=some e)∨XOK P G f e){f:Nat}{args:List FV}{h h':LH}(he:zv C f args h=some (.s (.bool true),h')){ρ:Nat→Ph}{W:World}(hg:G (W0 W))(R:Rel P (W0 W) ρ h W)(hw:∀u∈args,wfV ρ h.length u):
 Calls P f (args.map (cv ρ)).toArray W fun e W'=>e= .returned (.bool true)∧Below W.heap.size W W':=by
 refine Calls.mono (zcW (w0:=W0 W) hG hg hm hC f args h _ h' ρ W he R hw).2 fun e w' hq=> ?_;obtain⟨ρ',rfl,q1,_⟩:=hq;exact⟨rfl,q1.below.toBelow⟩
end
end Go.Proofs.YtdmcfjkgopmlgaaGreatDoor.Ev
