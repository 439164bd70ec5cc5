import Derived.Test.YtcnidlpginehjaaGreatRows
import Derived.Test.YtcnidlpginehjaaGreatLevelHistoryW6
import Derived.Test.YtcnidlpginehjaaGreatLevelHistoryHsA
import Derived.Test.YtcnidlpginehjaaGreatLevelHistoryHsB
import Derived.Test.YtcnidlpginehjaaGreatLevelHistoryHsC
import Derived.Test.YtcnidlpginehjaaGreatGf
namespace Go.Proofs.YtcnidlpginehjaaGreat.LevelHistory
open Go Go.ChangeShapes Go.WideShapes Go.ChangeAt Go.RowKit Go.Gw Go.Pu Go.Proofs.YtcnidlpginehjaaGreat.M Go.Proofs.YtcnidlpginehjaaGreat.W
set_option linter.unusedVariables false
set_option linter.unusedSimpArgs false
theorem own:ownKnob Tryz.prog.godebug=none:=by kernel_rfl
theorem zjI:laidOutB Tryz.prog=true:=by kernel_rfl
theorem tys:(Tryz.f3.params.toList.all fun a=>Tryz.prog.readableRec a&&decide (a<Tryz.prog.types.size))=true:=by kernel_rfl
theorem zhZ:Tryz.prog.cellsOf 38=10:=by kernel_rfl
theorem zhV:Tryz.prog.cellsOf 36=3:=by kernel_rfl
theorem zjD:Tryz.prog.cellsOf 24=1:=by kernel_rfl
theorem zjy:Tryz.prog.cellsOf 22=1:=by kernel_rfl
theorem zhq:Tryz.prog.cellsOf 176=4:=by kernel_rfl
theorem zjw:Tryz.prog.cellsOf 89=1:=by kernel_rfl
theorem zaZ:Tryz.prog.cellsOf 3=1:=by kernel_rfl
theorem zhc:Tryz.prog.cellsOf 9=1:=by kernel_rfl
theorem o9:Opn Tryz.prog 9 ByteArray:=zjB Tryz.underlying9
theorem o3:Opn Tryz.prog 3 Int:=zhS Tryz.underlying3
theorem o89:Opn Tryz.prog 89 (List ByteArray):=zew Tryz.underlying89 o9 zhc (by decide)
theorem o176:Opn Tryz.prog 176 zS:=zcF (β:=ByteArray×Int×(List ByteArray)×Int) (fun (a:zS)=>(a.name,a.kind,a.options,a.needs)) (fun b=>(⟨b.1,b.2.1,b.2.2.1,b.2.2.2⟩:zS)) (fun _=>rfl) Tryz.underlying176 zhq (jQ rfl zhc o9 (jQ rfl zaZ o3 (jQ rfl zjw o89 (zeh rfl zaZ o3))))
theorem o22:Opn Tryz.prog 22 (List zS):=zew Tryz.underlying22 o176 zhq (by decide)
theorem o24:Opn Tryz.prog 24 zK:=zcF (β:=(List zS)) (fun (a:zK)=>(a.fields)) (fun b=>(⟨b⟩:zK)) (fun _=>rfl) Tryz.underlying24 zjD (zeh rfl zjy o22)
theorem o36:Opn Tryz.prog 36 zu:=zcF (β:=Int×Int×ByteArray) (fun (a:zu)=>(a.kind,a.int,a.text)) (fun b=>(⟨b.1,b.2.1,b.2.2⟩:zu)) (fun _=>rfl) Tryz.underlying36 zhV (jQ rfl zaZ o3 (jQ rfl zaZ o3 (zeh rfl zhc o9)))
theorem o38:Opn Tryz.prog 38 zk:=zcF (β:=Int×Int×Int×Int×Int×Int×Int×zu) (fun (a:zk)=>(a.at_,a.ticket,a.who,a.kind,a.field,a.to_,a.message,a.value)) (fun b=>(⟨b.1,b.2.1,b.2.2.1,b.2.2.2.1,b.2.2.2.2.1,b.2.2.2.2.2.1,b.2.2.2.2.2.2.1,b.2.2.2.2.2.2.2⟩:zk)) (fun _=>rfl) Tryz.underlying38 zhZ (jQ rfl zaZ o3 (jQ rfl zaZ o3 (jQ rfl zaZ o3 (jQ rfl zaZ o3 (jQ rfl zaZ o3 (jQ rfl zaZ o3 (jQ rfl zaZ o3 (zeh rfl zhV o36))))))))
theorem o25:Opn Tryz.prog 25 (List zk):=zew Tryz.underlying25 o38 zhZ (by decide)
set_option maxRecDepth 100000 in
theorem zjT(l:Os)(z:l.Started)(P:Type)(enc:TypeId×Value→P):
  ReturnsInHanded {} Tryz.checked l 3 .any (Rows.levelHistorySpec.pre6 enc Tryz.prog Tryz.f3 Rows.levelHistoryRow.domain false) (Rows.levelHistorySpec.post enc Tryz.prog Tryz.f3 false true false false):=by{
 refine returnsInHanded_of_change (C:=Tryz.checked) own z (by kernel_rfl) Tryz.func3
  (ChangeSpec.witness6 (enc:=enc) (C:=Tryz.checked) false ⟨#[],#[.agg #[.slice none 0 0],.slice none 0 0,.int .i64 0], []⟩ 8 (by kernel_rfl) (by kernel_rfl) (by kernel_rfl) (by kernel_rfl)) ?_
 intro f base a G m S i c U _;have b:∀(w:Nat) t h,Tryz.f3.params[w]?=some t→a[w]?=some h→Value.okWide Tryz.prog f .any base t h:=i
 have D:m=[]:=by
  obtain⟨x,Q,_,n,_⟩:=c
  cases m with
  | nil=>rfl
  | cons g r=>exact n.elim
 subst D;have E:=c;obtain⟨x,Q,j,n,rfl,W,X⟩:=c;have d:DataW.TrodAll enc Tryz.prog f 0 (fun _=>true) true Tryz.f3.params.toList a.toList G x:=j;rw[Tryz.params3]at d b;obtain⟨o,Z,a8,a0,a9,b0,T,rfl,rfl,H,I⟩:=trodAll_cons d;obtain⟨e,a1,b1,a2,b2,b3,rfl,rfl,rfl,J,K⟩:=trodAll_cons I;obtain⟨p,a3,b4,a4,b5,b6,rfl,rfl,rfl,L,M⟩:=trodAll_cons K;obtain⟨rfl,rfl,rfl⟩:=trodAll_nil M;obtain rfl:a=#[o,e,p]:=by cases a;simp_all
 obtain⟨q,a5,rfl,F,k⟩:=zim o24 Tryz.underlying24 (b 0 24 o rfl rfl) H;obtain⟨A,rfl,B⟩:=F;obtain⟨s,g1,a6⟩:=zis o25 Tryz.underlying25 (b 1 25 e rfl rfl) J;obtain⟨u,rfl,a7⟩:=zjG Tryz.underlying3 (b 2 3 p rfl rfl) L;clear j d i;refine Calls.mono (zdk (Dw:=True) f (fun _ _=>trivial) q A B s e g1 u (zhn q s u (fun y v=>⟨(k.2 y v).1,fun R N=>((k.2 y v).2.2.1.2 R N)⟩))) ?_;rintro b8 b7⟨h,rfl,rfl,O⟩;exact⟨_,rfl,zjg rfl rfl rfl rfl rfl Tryz.underlying4 zjI tys E O.below⟩}
theorem proved:Rows.LevelHistorySaid :=
 OpenClaim.holds_of_wide 3 Tryz.f3 rfl rfl rfl rfl rfl rfl rfl ⟨rfl,rfl,rfl,rfl,rfl⟩ rfl rfl rfl rfl rfl (by kernel_rfl) Tryz.func3 (by kernel_rfl)
  (of_decide_eq_true (by kernel_rfl)) (by unfold Func.isWrapper;first | (rw[if_pos (by decide +kernel)];kernel_rfl) | (rw[if_neg (by decide +kernel)];exact⟨rfl,rfl⟩))
  (fun c a d b _=>zjT c a d b)
#print axioms proved
end Go.Proofs.YtcnidlpginehjaaGreat.LevelHistory
