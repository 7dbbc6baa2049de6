/- A part of the library of this seat. -/
import Derived.Test.YtcgmmknfpfdghaaDoorA5
set_option linter.unusedVariables false
set_option linter.unusedSimpArgs false
namespace Go.Proofs.YtcgmmknfpfdghaaDoor
attribute [-simp] Go.Av.keepL Go.Av.ups Go.Av.take_app_len Go.Av.MCo.kind_mk Go.Av.MCo.tag_mk Go.Av.MCo.label_mk Go.Av.MCo.kids_mk Go.Av.innVs Go.Av.putBack Go.Av.objCells Go.Av.back Go.Av.resVs Go.Av.one Go.Av.freeStepG Go.Av.exA Go.Av.innAsH Go.Av.AV.innH Go.Av.CV.innH Go.Av.innHs Go.Av.AV.outnH Go.Av.CV.outnH
open Go Go.Av
attribute [local irreducible] T ACalls eTy eTm MTy.kind MTy.kids MTm.kind MTm.name MTm.num MTm.ty MTm.fr MTm.label MTm.kids
attribute [local simp] eTy_def eTm_def
set_option maxHeartbeats 4000000
attribute [local simp] Option.bind

end Go.Proofs.YtcgmmknfpfdghaaDoor

namespace Go.Proofs.YtcgmmknfpfdghaaDoor
attribute [-simp] Go.Av.keepL Go.Av.ups Go.Av.take_app_len Go.Av.MCo.kind_mk Go.Av.MCo.tag_mk Go.Av.MCo.label_mk Go.Av.MCo.kids_mk Go.Av.innVs Go.Av.putBack Go.Av.objCells Go.Av.back Go.Av.resVs Go.Av.one Go.Av.freeStepG Go.Av.exA Go.Av.innAsH Go.Av.AV.innH Go.Av.CV.innH Go.Av.innHs Go.Av.AV.outnH Go.Av.CV.outnH
open Go Go.Av
attribute [local irreducible] T ACalls eTy eTm MTy.kind MTy.kids MTm.kind MTm.name MTm.num MTm.ty MTm.fr MTm.label MTm.kids
attribute [local simp] eTy_def eTm_def
set_option maxHeartbeats 4000000

end Go.Proofs.YtcgmmknfpfdghaaDoor

namespace Go.Proofs.YtcgmmknfpfdghaaDoor
attribute [-simp] Go.Av.keepL Go.Av.ups Go.Av.take_app_len Go.Av.MCo.kind_mk Go.Av.MCo.tag_mk Go.Av.MCo.label_mk Go.Av.MCo.kids_mk Go.Av.innVs Go.Av.putBack Go.Av.objCells Go.Av.back Go.Av.resVs Go.Av.one Go.Av.freeStepG Go.Av.exA Go.Av.innAsH Go.Av.AV.innH Go.Av.CV.innH Go.Av.innHs Go.Av.AV.outnH Go.Av.CV.outnH
open Go Go.Av
attribute [local irreducible] T ACalls eTy eTm MTy.kind MTy.kids MTm.kind MTm.name MTm.num MTm.ty MTm.fr MTm.label MTm.kids
attribute [local simp] eTy_def eTm_def
set_option maxHeartbeats 4000000

end Go.Proofs.YtcgmmknfpfdghaaDoor

namespace Go.Proofs.YtcgmmknfpfdghaaDoor
attribute [-simp] Go.Av.keepL Go.Av.ups Go.Av.take_app_len Go.Av.MCo.kind_mk Go.Av.MCo.tag_mk Go.Av.MCo.label_mk Go.Av.MCo.kids_mk Go.Av.innVs Go.Av.putBack Go.Av.objCells Go.Av.back Go.Av.resVs Go.Av.one Go.Av.freeStepG Go.Av.exA Go.Av.innAsH Go.Av.AV.innH Go.Av.CV.innH Go.Av.innHs Go.Av.AV.outnH Go.Av.CV.outnH
open Go Go.Av
attribute [local irreducible] T ACalls eTy eTm MTy.kind MTy.kids MTm.kind MTm.name MTm.num MTm.ty MTm.fr MTm.label MTm.kids
attribute [local simp] eTy_def eTm_def
set_option maxHeartbeats 4000000

def typeInM (ctx : List MBd) (e : MTm) : Option MTy := if ctxM ctx = true /\ termValidM e = true then typeM ctx e else none

abbrev tyRes : Option MTy -> List AV
 | some t => [aTy t, .b true]
 | none => [aTy zeroT, .b false]

end Go.Proofs.YtcgmmknfpfdghaaDoor
