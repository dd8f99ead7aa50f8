/-
  PLAIN: term.Value.
-/
import Derived.Test.YtpcdiilgomfpbaaDoorVenn
namespace Venn
def valueChk (t : List Int) (w : World) : Int := if termChk t = 0 then worldChk w else termChk t
def valueV (t : List Int) (w : World) : Int := if valueChk t w = 0 then termSet t w else 0
end Venn
